/- The seat's own laws on memory: what a call may have written (Upd), what a slice reads as (Has), append with its footprint, a slice as a string. No program stands here. -/
import Derived.WalkKit
import Derived.WalkSpells
import Derived.WalkLawsBesides
import Derived.Lib.Hide
import Derived.Deep.AppendSrc
import Derived.StillTailTactics
import Derived.Laws.IdiomStrings
import Derived.Deep.RegionLaw
namespace Go.Amb
open Go.RowKit

/-- Between w and w' only blocks of S, and new ones, may have turned. -/
structure Upd (S : Nat → Prop) (w w' : World) : Prop where
  os : w'.os = w.os
  tape : w'.tape = w.tape
  output : w'.output = w.output
  size : w.heap.size ≤ w'.heap.size
  block : ∀ k, k < w.heap.size → ¬ S k → w'.heap[k]? = w.heap[k]?

/-- No old block has turned. -/
def Non : Nat → Prop := fun _ => False
/-- The block of a slice, a pointer. -/
def At (v : Value) : Nat → Prop := fun k => v.ownBlock = some k

theorem Upd.refl (S : Nat → Prop) (w : World) : Upd S w w := ⟨rfl, rfl, rfl, Nat.le_refl _, fun _ _ _ => rfl⟩
theorem Upd.mono {S T : Nat → Prop} {w w' : World} (h : Upd S w w') (hst : ∀ k, k < w.heap.size → S k → T k) : Upd T w w' :=
  ⟨h.os, h.tape, h.output, h.size, fun k hk hn => h.block k hk fun hs => hn (hst k hk hs)⟩
/-- The second step may also have written what was new in the first. -/
theorem Upd.trans {S T : Nat → Prop} {a b c : World} (h : Upd S a b) (k : Upd T b c) (hT : ∀ j, j < a.heap.size → T j → S j) : Upd S a c :=
  ⟨k.os.trans h.os, k.tape.trans h.tape, k.output.trans h.output, Nat.le_trans h.size k.size,
    fun i hi hn => (k.block i (Nat.lt_of_lt_of_le hi h.size) fun ht => hn (hT i hi ht)).trans (h.block i hi hn)⟩
theorem Upd.drew (S : Nat → Prop) (w : World) : Upd S w w.drew := ⟨rfl, rfl, rfl, Nat.le_refl _, fun _ _ _ => rfl⟩
theorem Upd.drewN (S : Nat → Prop) (w : World) (n : Nat) : Upd S w (w.drewN n) := ⟨rfl, rfl, rfl, Nat.le_refl _, fun _ _ _ => rfl⟩
theorem Upd.alloc (S : Nat → Prop) (w : World) (o : Obj) : Upd S w (w.alloc o) := ⟨rfl, rfl, rfl, by simp, fun k hk _ => Below.heap_alloc w o k hk⟩
theorem Upd.setCell {S : Nat → Prop} (w : World) {a : Addr} (ha : S a.block) (u : Value) : Upd S w (w.setCell a u) :=
  ⟨rfl, rfl, rfl, by simp [World.setCell], fun k _ hn => Below.heap_setCell _ _ _ _ fun e => hn (e ▸ ha)⟩
theorem Upd.then_drew {S : Nat → Prop} {a w : World} (h : Upd S a w) : Upd S a w.drew := h.trans (Upd.drew S w) fun _ _ h => h
theorem Upd.then_drewN {S : Nat → Prop} {a w : World} (h : Upd S a w) (n : Nat) : Upd S a (w.drewN n) := h.trans (Upd.drewN S w n) fun _ _ h => h
theorem Upd.then_alloc {S : Nat → Prop} {a w : World} (h : Upd S a w) (o : Obj) : Upd S a (w.alloc o) := h.trans (Upd.alloc S w o) fun _ _ h => h
theorem Upd.then_setCell {S : Nat → Prop} {a w : World} (h : Upd S a w) {p : Addr} (hp : p.block < a.heap.size → S p.block) (u : Value) : Upd S a (w.setCell p u) :=
  h.trans (Upd.setCell (S := fun k => k = p.block) w rfl u) fun j hj e => by subst e; exact hp hj
theorem Upd.of_grownBy {w w' : World} {v : Value} (h : w.grownBy w' v.ownBlock) : Upd (At v) w w' :=
  ⟨h.os, h.tape, h.output, h.size, fun k hk hn => h.block k hk fun e => hn e.symm⟩
theorem Upd.below {S : Nat → Prop} {B : Nat} {w w' : World} (h : Upd S w w') (hB : B ≤ w.heap.size) (hS : ∀ k, k < B → ¬ S k) : Below B w w' :=
  ⟨h.os, h.tape, h.output, h.size, fun k hk => h.block k (by omega) (hS k hk)⟩
theorem Upd.of_below {B : Nat} {w w' : World} (h : Below B w w') : Upd (fun k => B ≤ k) w w' :=
  ⟨h.os, h.tape, h.output, h.size, fun k _ hn => h.block k (by omega)⟩
theorem Upd.of_fresh {w w' : World} (S : Nat → Prop) (h : Below w.heap.size w w') : Upd S w w' :=
  ⟨h.os, h.tape, h.output, h.size, fun k hk _ => h.block k hk⟩
theorem Upd.fresh {S : Nat → Prop} {w w' : World} (h : Upd S w w') (hS : ∀ k, k < w.heap.size → ¬ S k) : Below w.heap.size w w' :=
  ⟨h.os, h.tape, h.output, h.size, fun k hk => h.block k hk (hS k hk)⟩
theorem Upd.cell {S : Nat → Prop} {w w' : World} (h : Upd S w w') {a : Addr} {v : Value} (hc : w.cell? a = some v) (hn : ¬ S a.block) : w'.cell? a = some v :=
  (World.cell?_of_block (h.block a.block (World.block_lt_of_cell? w a hc) hn)).trans hc
theorem heap_lt {w : World} {g : Nat} {o : Obj} (h : w.heap[g]? = some o) : g < w.heap.size := (Array.getElem?_eq_some_iff.1 h).1
theorem Upd.heap {S : Nat → Prop} {w w' : World} (h : Upd S w w') {g : Nat} {o : Obj} (hg : w.heap[g]? = some o) (hn : ¬ S g) : w'.heap[g]? = some o :=
  (h.block g (heap_lt hg) hn).trans hg

theorem own_lt {w : World} {base : Nat} {e : TypeId} {size : Nat} {v : Value} {n : Nat} {xs : List Value} (h : w.ownsRow base e size v n xs) {k : Nat} (hk : At v k) : k < w.heap.size := (h.lt k hk).2
theorem own_ge {w : World} {base : Nat} {e : TypeId} {size : Nat} {v : Value} {n : Nat} {xs : List Value} (h : w.ownsRow base e size v n xs) {k : Nat} (hk : At v k) : base ≤ k := (h.lt k hk).1
theorem Upd.owns {S : Nat → Prop} {w w' : World} {base : Nat} {e : TypeId} {size : Nat} {v : Value} {n : Nat} {xs : List Value} (hu : Upd S w w') (h : w.ownsRow base e size v n xs) (hn : ∀ k, At v k → ¬ S k) : w'.ownsRow base e size v n xs := by
  refine ⟨h.1, ?_⟩
  rcases h.2 with hv | ⟨g, cap, cur, rfl, hb, hgg, rest⟩
  · exact .inl hv
  · exact .inr ⟨g, cap, cur, rfl, hb, hu.heap hgg (hn g rfl), rest⟩
theorem owns_mono {w : World} {B B' : Nat} {e : TypeId} {size : Nat} {v : Value} {n : Nat} {xs : List Value} (h : w.ownsRow B e size v n xs) (hB : ∀ k, At v k → B' ≤ k) : w.ownsRow B' e size v n xs := by
  refine ⟨h.1, ?_⟩
  rcases h.2 with hv | ⟨g, cap, cur, rfl, hb, hgg, rest⟩
  · exact .inl hv
  · exact .inr ⟨g, cap, cur, rfl, hB g rfl, hgg, rest⟩

/-- A slice value reads as n elements of 'size' cells: xs. -/
structure Has (w : World) (size : Nat) (v : Value) (n : Nat) (xs : List Value) : Prop where
  len : xs.length = n * size
  val : ∃ a c, v = .slice a n c ∧ n ≤ c ∧ c ≤ maxLen ∧ (n = 0 ∨ ∃ g off, a = some ⟨g, off, none⟩ ∧ ∀ j u, xs[j]? = some u → w.cell? ⟨g, off + j, none⟩ = some u)

theorem has_of_owns {w : World} {base : Nat} {e : TypeId} {size : Nat} {v : Value} {n : Nat} {xs : List Value} (h : w.ownsRow base e size v n xs) : Has w size v n xs := by
  refine ⟨h.1, ?_⟩
  rcases h.2 with ⟨rfl, rfl⟩ | ⟨g, cap, cur, rfl, hb, hg, hnc, hcm, hcs, htake⟩
  · exact ⟨none, 0, rfl, Nat.le_refl _, Nat.zero_le _, .inl rfl⟩
  · refine ⟨_, cap, rfl, hnc, hcm, .inr ⟨g, 0, rfl, fun j u hu => ?_⟩⟩
    have := h.cells (g := g) rfl j u hu
    rwa [Addr.add_lit] at this
theorem Has.upd {S : Nat → Prop} {w w' : World} {size n : Nat} {v : Value} {xs : List Value} (h : Has w size v n xs) (hu : Upd S w w') (hn : ∀ k, At v k → ¬ S k) : Has w' size v n xs := by
  obtain ⟨hl, a, c, rfl, h1, h2, h3⟩ := h
  refine ⟨hl, a, c, rfl, h1, h2, ?_⟩
  rcases h3 with h3 | ⟨g, off, rfl, hc⟩
  · exact .inl h3
  · exact .inr ⟨g, off, rfl, fun j u hj => hu.cell (hc j u hj) (hn g rfl)⟩
theorem Has.nil (w : World) (size : Nat) : Has w size (.slice none 0 0) 0 [] := ⟨by simp, none, 0, rfl, Nat.le_refl _, Nat.zero_le _, .inl rfl⟩

theorem Src.ofHas {P : Program} {w : World} {size : Nat} {tx e' : TypeId} {v : Value} {n : Nat} {xs : List Value} (hk : P.underlying tx = some (.slice e')) (h : Has w size v n xs) (h1 : ∀ u ∈ xs, u.oneCell' = true) : Src P size tx v n xs w := by
  obtain ⟨hl, a, c, rfl, _, _, h3⟩ := h
  by_cases hn : n = 0
  · subst hn
    obtain rfl : xs = [] := List.eq_nil_of_length_eq_zero (by simpa using hl)
    cases a with
    | none => exact Src.ofNil w hk c
    | some a => exact Src.ofSlice w hk a 0 c [] (by simp) (fun j u h => by simp at h) (fun u h => by cases h)
  · rcases h3 with h3 | ⟨g, off, rfl, hc⟩
    · exact absurd h3 hn
    · exact Src.ofSlice w hk ⟨g, off, none⟩ n c xs hl (fun j u hj => by rw [Addr.add_lit]; exact hc j u hj) h1

/-- APPEND, whatever the source: the row is the old one or a new one. -/
theorem run_app {P : Program} (w : World) (base : Nat) (t tx ty e : TypeId) (i : TypeInfo) (z : Value) (size bytes : Nat) (ht : P.underlying t = some (.slice e)) (hi : P.info? e = some i) (hz : i.zero = some z)
    (hsize : i.size = size) (hby : i.bytes = bytes) (hzs : z.cells.size = size)
    (v : Value) (n : Nat) (xs : List Value) (hown : w.ownsRow base e size v n xs)
    (x : Value) (m : Nat) (news : List Value) (hs : Src P size tx x m news w)
    (h63 : n + m ≤ maxLen) (hbytes : (n + m) * bytes ≤ 140737488355328) (hbase : base ≤ w.heap.size) :
    ∃ v' w', (Builtin.append_ #[t, tx] ty #[v, x]).run P w = .ok v' w' ∧ w'.ownsRow base e size v' (n + m) (xs ++ news) ∧ Upd (At v) w w' ∧
      (∀ k, At v' k → At v k ∨ w.heap.size ≤ k) ∧ (v' = .slice none 0 0 ↔ v = .slice none 0 0 ∧ m = 0) := by
  subst hsize
  subst hby
  have hsmall : n + m ≤ 9223372036854775807 := by simp only [maxLen] at h63; omega
  have hl := hs.newsLen
  have hlen : (xs ++ news).length = (n + m) * i.size := by rw [List.length_append, hown.1, hl, Nat.add_mul]
  have grown : ∀ (old : Nat), old < n + m →
      (w.drew.alloc (.cells ((xs ++ news).toArray ++ Builtin.zeroCells z.cells (grownCap w (n + m) old e - (n + m))) e)).ownsRow base e i.size
        (.slice (some ⟨w.heap.size, 0, none⟩) (n + m) (grownCap w (n + m) old e)) (n + m) (xs ++ news) := by
    intro old ho
    have hge := grownCap_ge w (n + m) old e
    have hcm : grownCap w (n + m) old e ≤ maxLen := grownCap_le_maxLen w (n + m) old e h63
    refine ⟨hlen, .inr ⟨w.heap.size, _, _, rfl, hbase, heap_alloc_new w.drew _, hge, hcm, ?_, ?_⟩⟩
    · simp only [Array.size_append, List.size_toArray, size_zeroCells, hzs, hlen, ← Nat.add_mul]
      congr 1
      omega
    · simp only [Array.toList_append]
      rw [← hlen]
      exact List.take_left
  rcases hown.2 with ⟨rfl, rfl⟩ | ⟨g, cap, cur, rfl, hbg, hg, hnc, hcm, hcs, htake⟩
  · have hx : xs = [] := List.eq_nil_of_length_eq_zero (by simpa using hown.1)
    subst hx
    by_cases hm : m = 0
    · subst hm
      have hn : news = [] := List.eq_nil_of_length_eq_zero (by simpa using hl)
      subst hn
      refine ⟨.slice none 0 0, w, ?_, World.ownsRow_nil w base e i.size, Upd.refl _ _, fun k hk => .inl hk, by simp⟩
      have hc := hs.cells
      rcases hs.kind with ⟨e', hk⟩ | hk <;> simp [Builtin.append_, run_underlying ht, run_underlying hk, sizeOf, typeInfo, hi, hs.len, hc]
    · have hr := run_append_grow_src (P := P) w t tx ty e i z ht hi hz none 0 0 [] (run_firstCells_none w.drew i.size 0 0 0) x m news hs (by omega) (by omega) (growslice_fits (by omega) hbytes)
      have hgr := grown 0 (by omega)
      simp only [Nat.zero_add, List.nil_append] at hgr hr ⊢
      exact ⟨_, _, hr, hgr, (Upd.drew _ _).then_alloc _, fun k hk => .inr (by simp [At, Value.ownBlock] at hk; omega), by simp [hm]⟩
  · by_cases hroom : n + m ≤ cap
    · have hfit : n * i.size + news.length ≤ cur.size := by rw [hl, hcs, ← Nat.add_mul]; exact Nat.mul_le_mul_right _ hroom
      have hcell : ∀ j, w.cell? ⟨g, j, none⟩ = cur[j]? := fun j => cell_of_row w g j cur e (0, 0) hg
      have hst := run_storeCells_at P g (n * i.size) e news 0 cur w hg (by simpa using hfit) hs.one
      simp only [Nat.add_zero] at hst
      have hr : (Builtin.append_ #[t, tx] ty #[.slice (some ⟨g, 0, none⟩) n cap, x]).run P w = .ok (.slice (some ⟨g, 0, none⟩) (n + m) cap) (w.setRow g (cur.toList.take (n * i.size) ++ news ++ cur.toList.drop (n * i.size + news.length)).toArray) := by
        have hc := hs.cells
        rcases hs.kind with ⟨e', hk⟩ | hk <;> simp [Builtin.append_, run_underlying ht, run_underlying hk, sizeOf, typeInfo, hi, hs.len, hroom, hc, Addr.add_lit, hst]
      refine ⟨_, _, hr, ⟨hlen, .inr ⟨g, cap, _, rfl, hbg, setRow_heap w g cur _ e _ hg, hroom, hcm, ?_, ?_⟩⟩, ⟨rfl, rfl, rfl, by simp, fun k _ hk => setRow_other w g k _ (fun e => hk (by simp [At, Value.ownBlock, e]))⟩, fun k hk => .inl hk, by simp⟩
      · simp only [List.size_toArray, List.length_append, List.length_take, List.length_drop, Array.length_toList]
        omega
      · rw [htake, ← hlen]
        exact List.take_left
    · have holds : ∀ j u, xs[j]? = some u → w.drew.cell? ((⟨g, 0, none⟩ : Addr).add j) = some u := hown.cells (g := g) rfl
      have hr := run_append_grow_src (P := P) w t tx ty e i z ht hi hz (some ⟨g, 0, none⟩) n cap xs (run_firstCells_some w.drew i.size n ⟨g, 0, none⟩ n cap xs hown.1 holds) x m news hs (by omega) (by omega) (growslice_fits (by omega) hbytes)
      have hgr := grown cap (by omega)
      exact ⟨_, _, hr, hgr, (Upd.drew _ _).then_alloc _, fun k hk => .inr (by simp [At, Value.ownBlock] at hk; omega), by simp⟩

theorem wpList_app {P : Program} {w : World} {ops : Array Oper} {rest : List Oper} {o : Oper} {a : Act} {Q : Exit → Act → World → Prop} (hgd : o.guard = none) (s x : Operand) (t tx : TypeId)
    (ho : o.op = .call { callee := .builtin .append, args := #[s, x], argTypes := #[t, tx] })
    (base : Nat) (e : TypeId) (z : Value) (size bytes : Nat) (ht : P.underlying t = some (.slice e)) (hinfo : (P.info? e).map (fun i => (i.zero, i.size, i.bytes)) = some (some z, size, bytes))
    (hzs : z.cells.size = size)
    (v : Value) (n : Nat) (xs : List Value) (hs : a.eval s = v) (hown : w.ownsRow base e size v n xs)
    (xv : Value) (m : Nat) (news : List Value) (hx : a.eval x = xv) (hsrc : Src P size tx xv m news w)
    (h63 : n + m ≤ maxLen) (hbytes : (n + m) * bytes ≤ 140737488355328) (hbase : base ≤ w.heap.size)
    (h : ∀ v' w', w'.ownsRow base e size v' (n + m) (xs ++ news) → Upd (At v) w w' → (∀ k, At v' k → At v k ∨ w.heap.size ≤ k) → wpList P ops Q rest (a.put o.dst v') w') : wpList P ops Q (o :: rest) a w := by
  obtain ⟨i, hi, hz, hsize, hby⟩ := info_parts hinfo
  refine wpList_plain hgd fun K hK => ?_
  obtain ⟨v', w', hr, h2, h3, h4, _⟩ := run_app (P := P) w base t tx o.type e i z size bytes ht hi hz hsize hby hzs v n xs hown xv m news hsrc h63 hbytes hbase
  unfold Oper.wp execOp
  simp only [ho, resolve, invoke, builtin, Sem.run_bind, Sem.run_pure, Result.andThen_ok, List.map_toArray, List.map_cons, List.map_nil, hs, hx, hr]
  exact hK _ _ (h v' w' h2 h3 h4)

/-! ### Bytes -/
/-- Bytes as cells. -/
def bc (l : List UInt8) : List Value := l.map fun b => Value.int .u8 b.toNat
theorem bc_length (l : List UInt8) : (bc l).length = l.length := by simp [bc]
theorem bc_append (a b : List UInt8) : bc (a ++ b) = bc a ++ bc b := by simp [bc]
theorem bc_one (l : List UInt8) : ∀ u ∈ bc l, u.oneCell' = true := by
  intro u hu
  obtain ⟨_, _, rfl⟩ := List.mem_map.1 hu
  rfl
theorem bc_get (l : List UInt8) (j : Nat) (u : Value) : (bc l)[j]? = some u ↔ ∃ h : j < l.length, u = .int .u8 (l[j].toNat : Int) := by
  unfold bc
  rw [List.getElem?_map, Option.map_eq_some_iff]
  constructor
  · rintro ⟨b, hb, rfl⟩
    obtain ⟨h, rfl⟩ := List.getElem?_eq_some_iff.1 hb
    exact ⟨h, rfl⟩
  · rintro ⟨h, rfl⟩
    exact ⟨l[j], List.getElem?_eq_getElem h, rfl⟩
theorem byteCells_bc (s : ByteArray) : byteCells s = bc s.data.toList := rfl

/-- A slice reads as bytes. -/
abbrev Bytes (w : World) (v : Value) (l : List UInt8) : Prop := Has w 1 v l.length (bc l)
/-- A slice of the call's own reads as bytes. -/
abbrev Own (w : World) (base : Nat) (e : TypeId) (v : Value) (l : List UInt8) : Prop := w.ownsRow base e 1 v l.length (bc l)
theorem Own.bytes {w : World} {base : Nat} {e : TypeId} {v : Value} {l : List UInt8} (h : Own w base e v l) : Bytes w v l := has_of_owns h

/-- 'string(b)'. -/
theorem run_str {P : Program} (w : World) (src dst e : TypeId) (hs : P.underlying src = some (.slice e)) (he : P.underlying e = some (.int .u8)) (hd : P.underlying dst = some .string) (v : Value) (l : List UInt8) (h : Bytes w v l) :
    (convert src dst v).run P w = .ok (.string ⟨l.toArray⟩) w := by
  obtain ⟨hl, a, c, rfl, hnc, hcm, h3⟩ := h
  by_cases hn : l.length = 0
  · obtain rfl : l = [] := List.eq_nil_of_length_eq_zero hn
    cases a with
    | none => rw [run_convert_bytes_nil w src e hs he _ _ dst hd]; rfl
    | some a => exact run_convert_bytes_back w src dst e a c [] hs he hd (fun j hj => by simp at hj)
  · rcases h3 with h3 | ⟨g, off, rfl, hc⟩
    · exact absurd h3 hn
    · exact run_convert_bytes_back w src dst e ⟨g, off, none⟩ c l hs he hd (fun j hj => by
        rw [Addr.add_lit]
        exact hc j _ ((bc_get l j _).2 ⟨hj, rfl⟩))

theorem wpList_str {P : Program} {w : World} {ops : Array Oper} {rest : List Oper} {o : Oper} {a : Act} {Q : Exit → Act → World → Prop} (hgd : o.guard = none) (x : Operand) (src dst e : TypeId) (ho : o.op = .convert src dst x)
    (hs : P.underlying src = some (.slice e)) (he : P.underlying e = some (.int .u8)) (hd : P.underlying dst = some .string) (v : Value) (l : List UInt8) (hx : a.eval x = v) (hb : Bytes w v l)
    (h : wpList P ops Q rest (a.put o.dst (.string ⟨l.toArray⟩)) w) : wpList P ops Q (o :: rest) a w := by
  refine wpList_plain hgd fun K hK => ?_
  have hr := run_str (P := P) w src dst e hs he hd v l hb
  unfold Oper.wp execOp
  simp only [ho, Sem.run_bind, Sem.run_pure, Result.andThen_ok, hx, hr]
  exact hK _ _ h


/-! ### One element more -/
theorem has_new (w : World) (cs : List Value) (e : TypeId) (size n : Nat) (h : cs.length = n * size) (hm : n ≤ maxLen) : Has (w.alloc (.cells cs.toArray e)) size (.slice (some ⟨w.heap.size, 0, none⟩) n n) n cs :=
  ⟨h, _, n, rfl, Nat.le_refl _, hm, .inr ⟨w.heap.size, 0, rfl, fun j u hj => by rw [World.cell?_alloc_at _ _ _ _ rfl, Nat.zero_add]; simpa using hj⟩⟩

/-- 'append(s, x)': x lies in a new block of one element. -/
theorem wpList_app1 {P : Program} {w : World} {ops : Array Oper} {rest : List Oper} {o : Oper} {a : Act} {Q : Exit → Act → World → Prop} (hgd : o.guard = none) (s x : Operand) (t : TypeId)
    (ho : o.op = .call { callee := .builtin .append, args := #[s, x], argTypes := #[t, t] })
    (base : Nat) (e : TypeId) (z : Value) (size bytes : Nat) (ht : P.underlying t = some (.slice e)) (hinfo : (P.info? e).map (fun i => (i.zero, i.size, i.bytes)) = some (some z, size, bytes))
    (hzs : z.cells.size = size)
    (v : Value) (n : Nat) (xs : List Value) (hs : a.eval s = v) (hown : w.ownsRow base e size v n xs) (cs : List Value)
    (hx : a.eval x = .slice (some ⟨w.heap.size, 0, none⟩) 1 1) (hl : cs.length = size) (h1 : ∀ u ∈ cs, u.oneCell' = true)
    (h63 : n + 1 ≤ maxLen) (hbytes : (n + 1) * bytes ≤ 140737488355328) (hbase : base ≤ w.heap.size)
    (h : ∀ v' w', w'.ownsRow base e size v' (n + 1) (xs ++ cs) → Upd (At v) w w' → (∀ k, At v' k → At v k ∨ w.heap.size ≤ k) → wpList P ops Q rest (a.put o.dst v') w') : wpList P ops Q (o :: rest) a (w.alloc (.cells cs.toArray e)) :=
  wpList_app hgd s x t t ho base e z size bytes ht hinfo hzs v n xs hs (hown.alloc _) _ 1 cs hx (Src.ofHas ht (has_new w cs e size 1 (by omega) (by unfold maxLen; omega)) h1) h63 hbytes (by simp; omega)
    fun v' w' h2 h3 h4 => h v' w' h2 ((Upd.alloc (At v) w _).trans h3 fun _ _ h => h) fun k hk => (h4 k hk).imp id fun h => by simp at h; omega

theorem own_snoc {w : World} {base : Nat} {e : TypeId} {v : Value} {l : List UInt8} {N : Nat} {x : Int} {b : UInt8} (h : w.ownsRow base e 1 v N (bc l ++ [.int .u8 x])) (hx : x = (b.toNat : Int)) : Own w base e v (l ++ [b]) := by
  subst hx
  have e1 : bc l ++ [Value.int .u8 (b.toNat : Int)] = bc (l ++ [b]) := by simp [bc]
  rw [e1] at h
  have hN : N = (l ++ [b]).length := by have := h.1; simp only [bc_length] at this; omega
  rw [hN] at h
  exact h
theorem own_app {w : World} {base : Nat} {e : TypeId} {v : Value} {l l' : List UInt8} {N : Nat} (h : w.ownsRow base e 1 v N (bc l ++ bc l')) : Own w base e v (l ++ l') := by
  rw [← bc_append] at h
  have hN : N = (l ++ l').length := by have := h.1; simp only [bc_length] at this; omega
  rw [hN] at h
  exact h

theorem own_lit0 (w : World) (base : Nat) (e : TypeId) (hb : base ≤ w.heap.size) : Own (w.alloc (.cells #[] e)) base e (.slice (some ⟨w.heap.size, 0, none⟩) 0 0) [] :=
  World.ownsRow_lit (size := 1) w #[] 0 hb (Nat.zero_le _) rfl

/-- What a call that appends has done. -/
def Grew (base : Nat) (E : TypeId) (v : Value) (l : List UInt8) (w : World) (e : Ending) (w' : World) : Prop :=
  ∃ v', e = .returned v' ∧ Own w' base E v' l ∧ Upd (At v) w w' ∧ (∀ k, At v' k → At v k ∨ w.heap.size ≤ k)

/-- A call that answers v and writes nothing old. -/
def Ret (v : Value) (w : World) (e : Ending) (w' : World) : Prop := e = .returned v ∧ Upd Non w w'

theorem Upd.non {S : Nat → Prop} {w w' : World} (h : Upd Non w w') : Upd S w w' := h.mono fun _ _ h => h.elim
theorem Upd.toNon {S : Nat → Prop} {w w' : World} (h : Upd S w w') (hS : ∀ k, S k → w.heap.size ≤ k) : Upd Non w w' := h.mono fun k hk hs => by have := hS k hs; omega

/-- 'go_still_tail', the world under its own name. -/
theorem wp_tail {P : Program} {id : Nat} {Q : Exit → Act → World → Prop} {a : Act} {w : World} {l : List Oper} (n : Nat) (hm : P.follows .mixedOrders = true) (hB : Region.lexTailB .any l.toArray n = true)
    (h : wpStill P l.toArray w.drew (fun a' => wpList P l.toArray Q (l.drop n) a' w.drew) (l.take n) a) : (Code.region id l.toArray true).wp P Q a w :=
  wp_region_still_tail n hm hB h

/-! ### A piece of a text -/
theorem run_sub {P : Program} (t : TypeId) (hu : P.underlying t = some .string) (s : List UInt8) (lo hi : Int) (l h : Nat) (hl : lo = l) (hh : hi = h) (h1 : l ≤ h) (h2 : h ≤ s.length) (w : World) :
    (Instr.slice t (.string ⟨s.toArray⟩) (some (.int .i64 lo)) (some (.int .i64 hi)) none).run P w = .ok (.string ⟨((s.drop l).take (h - l)).toArray⟩) w := by
  subst hl; subst hh
  have := run_slice_string (P := P) w t ⟨s.toArray⟩ .i64 .i64 (l : Int) (h : Int) hu (by omega) (by omega) (by simp [ByteArray.size]; omega)
  rw [this, Int.toNat_natCast, Int.toNat_natCast, ByteArray.extract_mk]

/-! ### What stands of known blocks behind a call -/
theorem cells_of {w : World} {b : Nat} {cs : Array Value} {e : TypeId} (h : w.heap[b]? = some (.cells cs e (0, 0))) : (∀ j, w.cell? ⟨b, j, none⟩ = cs[j]?) ∧ (∀ j, w.frozen? ⟨b, j, none⟩ = false) :=
  ⟨fun j => cell_of_row w b j cs e (0, 0) h, fun j => frozen_of_row w b j cs e h⟩
/-- One block of the call's own ahead of the call. -/
theorem Upd.own1 {S : Nat → Prop} {w w1 : World} {ca : Array Value} {ea : TypeId} (hu : Upd S (w.alloc (.cells ca ea)) w1) (hS : ∀ k, S k → k < w.heap.size) :
    (∀ j, w1.cell? ⟨w.heap.size, j, none⟩ = ca[j]?) ∧ (∀ j, w1.frozen? ⟨w.heap.size, j, none⟩ = false) ∧ w.heap.size < w1.heap.size ∧ Upd S w w1 := by
  have h := hu.heap (heap_alloc_new w (.cells ca ea)) fun h => by have := hS _ h; omega
  have hs := hu.size
  simp at hs
  exact ⟨(cells_of h).1, (cells_of h).2, by omega, (Upd.alloc S w _).trans hu fun _ _ h => h⟩
/-- Two. -/
theorem Upd.own2 {S : Nat → Prop} {w w1 : World} {ca cb : Array Value} {ea eb : TypeId} (hu : Upd S ((w.alloc (.cells ca ea)).alloc (.cells cb eb)) w1) (hS : ∀ k, S k → k < w.heap.size) :
    (∀ j, w1.cell? ⟨w.heap.size, j, none⟩ = ca[j]?) ∧ (∀ j, w1.frozen? ⟨w.heap.size, j, none⟩ = false) ∧
    (∀ j, w1.cell? ⟨w.heap.size + 1, j, none⟩ = cb[j]?) ∧ (∀ j, w1.frozen? ⟨w.heap.size + 1, j, none⟩ = false) ∧ w.heap.size < w1.heap.size ∧ w.heap.size + 1 < w1.heap.size ∧ Upd S w w1 := by
  have h1 := hu.heap (heap_alloc2_old w (.cells ca ea) (.cells cb eb)) fun h => by have := hS _ h; omega
  have h2 := hu.heap (heap_alloc2_new w (.cells ca ea) (.cells cb eb)) fun h => by have := hS _ h; omega
  have hs := hu.size
  simp at hs
  exact ⟨(cells_of h1).1, (cells_of h1).2, (cells_of h2).1, (cells_of h2).2, by omega, by omega, ((Upd.alloc S w _).trans (Upd.alloc S _ _) fun _ _ h => h).trans hu fun _ _ h => h⟩

/-! ### Numbers as bytes -/
def byteAt (n : Int) (i : Nat) : UInt8 := UInt8.ofNat (n / 2 ^ (8 * i) % 256).toNat
theorem byteAt_int (n : Int) (i : Nat) : ((byteAt n i).toNat : Int) = n / 2 ^ (8 * i) % 256 := by
  unfold byteAt
  have h := Int.emod_nonneg (n / 2 ^ (8 * i)) (show (256 : Int) ≠ 0 by decide)
  have h2 := Int.emod_lt_of_pos (n / 2 ^ (8 * i)) (show (0 : Int) < 256 by decide)
  rw [UInt8.toNat_ofNat']
  omega
/-- The first j bytes of the field of m bytes. -/
def fldTo (n : Int) (m j : Nat) : List UInt8 := (List.range j).map fun t => byteAt n (m - 1 - t)
/-- The field of m bytes: the highest first. -/
def fld (n : Int) (m : Nat) : List UInt8 := fldTo n m m
theorem fldTo_succ (n : Int) (m j : Nat) : fldTo n m (j + 1) = fldTo n m j ++ [byteAt n (m - 1 - j)] := by simp [fldTo, List.range_succ]
theorem fldTo_length (n : Int) (m j : Nat) : (fldTo n m j).length = j := by simp [fldTo]
theorem fld_length (n : Int) (m : Nat) : (fld n m).length = m := fldTo_length n m m

theorem mod_pow_div (n : Int) (i M : Nat) (h : i < M) : n % 2 ^ (8 * M) / 2 ^ (8 * i) % 256 = n / 2 ^ (8 * i) % 256 := by
  have e1 : (2 : Int) ^ (8 * M) = 2 ^ (8 * i) * (256 * 2 ^ (8 * (M - i - 1))) := by
    rw [show (256 : Int) = 2 ^ 8 by decide, ← Int.pow_add, ← Int.pow_add]
    congr 1
    omega
  have hp : (0 : Int) < 2 ^ (8 * i) := Int.pow_pos (by decide)
  have e2 : n % 2 ^ (8 * M) = n + 2 ^ (8 * i) * (256 * (-(n / 2 ^ (8 * M)) * 2 ^ (8 * (M - i - 1)))) := by
    have h1 := Int.emod_add_mul_ediv n (2 ^ (8 * M))
    have h2 : 2 ^ (8 * M) * (n / 2 ^ (8 * M)) = 2 ^ (8 * i) * (256 * 2 ^ (8 * (M - i - 1))) * (n / 2 ^ (8 * M)) := by rw [← e1]
    have h3 : 2 ^ (8 * i) * (256 * (-(n / 2 ^ (8 * M)) * 2 ^ (8 * (M - i - 1)))) = -(2 ^ (8 * i) * (256 * 2 ^ (8 * (M - i - 1))) * (n / 2 ^ (8 * M))) := by
      rw [Int.neg_mul, Int.mul_neg, Int.mul_neg]
      congr 1
      rw [Int.mul_assoc, Int.mul_assoc 256, Int.mul_comm (n / _)]
    rw [h3, ← h2]
    omega
  rw [e2, Int.add_mul_ediv_left _ _ (by omega), Int.add_mul_emod_self_left]
theorem byteAt_mod (n : Int) (i M : Nat) (h : i < M) : byteAt (n % 2 ^ (8 * M)) i = byteAt n i := by
  unfold byteAt; rw [mod_pow_div n i M h]
theorem fld_mod (n : Int) (m M : Nat) (h : m ≤ M) : fld (n % 2 ^ (8 * M)) m = fld n m := by
  unfold fld fldTo
  refine List.map_congr_left fun t ht => ?_
  have := List.mem_range.1 ht
  exact byteAt_mod n _ M (by omega)

end Go.Amb

namespace Go.Amb
open Go.RowKit

theorem set3 {w : World} {M : Nat} {c0 c1 c2 : Value} {t : TypeId} (h : w.heap[M]? = some (.cells #[c0, c1, c2] t (0, 0))) (a b c : Value) :
    (((w.setCell ⟨M, 0, none⟩ a).setCell ⟨M, 1, none⟩ b).setCell ⟨M, 2, none⟩ c).heap[M]? = some (.cells #[a, b, c] t (0, 0)) ∧
    Upd (fun k => k = M) w (((w.setCell ⟨M, 0, none⟩ a).setCell ⟨M, 1, none⟩ b).setCell ⟨M, 2, none⟩ c) := by
  refine ⟨?_, Upd.then_setCell (p := ⟨M, 2, none⟩) (Upd.then_setCell (p := ⟨M, 1, none⟩) (Upd.then_setCell (p := ⟨M, 0, none⟩) (Upd.refl (fun k => k = M) w) (fun _ => rfl) a) (fun _ => rfl) b) (fun _ => rfl) c⟩
  rw [heap_setCell_same _ M 2 _ _ _ (heap_setCell_same _ M 1 _ _ _ (heap_setCell_same _ M 0 _ _ _ h))]
  rfl
theorem set3u (w : World) (M : Nat) (a b c : Value) : Upd (fun k => k = M) w (((w.setCell ⟨M, 0, none⟩ a).setCell ⟨M, 1, none⟩ b).setCell ⟨M, 2, none⟩ c) :=
  Upd.then_setCell (p := ⟨M, 2, none⟩) (Upd.then_setCell (p := ⟨M, 1, none⟩) (Upd.then_setCell (p := ⟨M, 0, none⟩) (Upd.refl (fun k => k = M) w) (fun _ => rfl) a) (fun _ => rfl) b) (fun _ => rfl) c
theorem Upd.own1d {w w1 : World} {ca : Array Value} {ea : TypeId} (hu : Upd Non (w.alloc (.cells ca ea)).drew w1) :
    (∀ j, w1.cell? ⟨w.heap.size, j, none⟩ = ca[j]?) ∧ (∀ j, w1.frozen? ⟨w.heap.size, j, none⟩ = false) ∧ w.heap.size < w1.heap.size := by
  have h := (((Upd.drew Non (w.alloc (.cells ca ea))).trans hu fun _ _ h => h) : Upd Non (w.alloc (.cells ca ea)) w1).own1 (fun _ h => h.elim)
  exact ⟨h.1, h.2.1, h.2.2.1⟩
/-- A call behind the making of a block, in a region that draws its order: the block stands. -/
theorem ret_new {P : Program} {f : FuncId} {args : Array Value} {v : Value} (w : World) (h : ∀ w, Calls P f args w (Ret v w)) (ca : Array Value) (ea : TypeId) :
    Calls P f args (w.alloc (.cells ca ea)).drew fun e w' => e = .returned v ∧ Upd Non (w.alloc (.cells ca ea)).drew w' ∧ (∀ j, w'.cell? ⟨w.heap.size, j, none⟩ = ca[j]?) ∧ (∀ j, w'.frozen? ⟨w.heap.size, j, none⟩ = false) ∧ w.heap.size < w'.heap.size ∧ w'.heap[w.heap.size]? = some (.cells ca ea (0, 0)) :=
  (h _).mono fun _ _ ⟨he, hu⟩ => ⟨he, hu, hu.own1d.1, hu.own1d.2.1, hu.own1d.2.2, (((Upd.drew Non (w.alloc (.cells ca ea))).trans hu fun _ _ h => h) : Upd Non (w.alloc (.cells ca ea)) _).heap (heap_alloc_new w _) fun h => h⟩
theorem Upd.belowN {w w' : World} {B : Nat} (h : Upd Non w w') (hB : B ≤ w.heap.size) : Below B w w' := h.below hB fun _ _ h => h
theorem Upd.below1 {w w' : World} {B M : Nat} (h : Upd (fun k => k = M) w w') (hB : B ≤ w.heap.size) (hM : B ≤ M) : Below B w w' := h.below hB fun k hk e => by omega
theorem nonOf {w w' : World} (h : Below w.heap.size w w') : Upd Non w w' := Upd.of_fresh _ h

/-- What '[]byte(s)' gives: a new row of the bytes. -/
structure Made (w : World) (l : List UInt8) (c : Nat) (w' : World) : Prop where
  cap : l.length ≤ c
  max : c ≤ maxLen
  size : w'.heap.size = w.heap.size + 1
  cell : ∀ j (h : j < l.length), w'.cell? ⟨w.heap.size, j, none⟩ = some (.int .u8 (l[j].toNat : Int))
  free : ∀ j, j < l.length → w'.frozen? ⟨w.heap.size, j, none⟩ = false
  upd : Upd Non w w'
theorem Made.bytes {w w' : World} {l : List UInt8} {c : Nat} (h : Made w l c w') : Bytes w' (.slice (some ⟨w.heap.size, 0, none⟩) l.length c) l :=
  ⟨by rw [bc_length, Nat.mul_one], _, _, rfl, h.cap, h.max, .inr ⟨w.heap.size, 0, rfl, fun j u hu => by
    obtain ⟨hj, rfl⟩ := (bc_get _ _ _).1 hu
    rw [Nat.zero_add]
    exact h.cell j hj⟩⟩
theorem run_tobytes {P : Program} (w : World) (src dst e : TypeId) (hs : P.underlying src = some .string) (hd : P.underlying dst = some (.slice e)) (he : P.underlying e = some (.int .u8)) (l : List UInt8) (hl : l.length ≤ maxLen) :
    ∃ c w', (convert src dst (.string ⟨l.toArray⟩)).run P w = .ok (.slice (some ⟨w.heap.size, 0, none⟩) l.length c) w' ∧ Made w l c w' := by
  have hr := run_bytes_of_string (P := P) w src dst e ⟨l.toArray⟩ hs hd he
  have hsz : ByteArray.size ⟨l.toArray⟩ = l.length := by simp [ByteArray.size]
  rw [hsz] at hr
  refine ⟨_, _, hr, grownCap_ge _ _ _ _, grownCap_le_maxLen _ _ _ _ hl, by simp, fun j h => ?_, fun j h => ?_, (Upd.drew Non w).then_alloc _⟩
  · have := World.cell?_alloc_mark w.drew (bytesRow ⟨l.toArray⟩ (grownCap w l.length 0 e)) e ((bytesRow ⟨l.toArray⟩ (grownCap w l.length 0 e)).size, (bytesRow ⟨l.toArray⟩ (grownCap w l.length 0 e)).size + 1) j
    refine this.trans ?_
    unfold bytesRow
    rw [Array.getElem?_append_left (by simpa using h)]
    simp [h]
  · have hb : (w.drew.alloc (.cells (bytesRow ⟨l.toArray⟩ (grownCap w l.length 0 e)) e ((bytesRow ⟨l.toArray⟩ (grownCap w l.length 0 e)).size, (bytesRow ⟨l.toArray⟩ (grownCap w l.length 0 e)).size + 1))).heap[w.heap.size]? = some (.cells (bytesRow ⟨l.toArray⟩ (grownCap w l.length 0 e)) e ((bytesRow ⟨l.toArray⟩ (grownCap w l.length 0 e)).size, (bytesRow ⟨l.toArray⟩ (grownCap w l.length 0 e)).size + 1)) := heap_alloc_new w.drew _
    have hn : l.length ≤ (bytesRow ⟨l.toArray⟩ (grownCap w l.length 0 e)).size := by simp [bytesRow]
    unfold World.frozen?
    simp only [hb]
    rw [Bool.and_eq_false_iff]
    left
    simp
    omega
theorem wpList_tobytes {P : Program} {w : World} {ops : Array Oper} {rest : List Oper} {o : Oper} {a : Act} {Q : Exit → Act → World → Prop} (hgd : o.guard = none) (x : Operand) (src dst e : TypeId) (ho : o.op = .convert src dst x)
    (hs : P.underlying src = some .string) (hd : P.underlying dst = some (.slice e)) (he : P.underlying e = some (.int .u8)) (l : List UInt8) (hx : a.eval x = .string ⟨l.toArray⟩) (hl : l.length ≤ maxLen)
    (h : ∀ c w', Made w l c w' → wpList P ops Q rest (a.put o.dst (.slice (some ⟨w.heap.size, 0, none⟩) l.length c)) w') : wpList P ops Q (o :: rest) a w := by
  refine wpList_plain hgd fun K hK => ?_
  obtain ⟨c, w', hr, hm⟩ := run_tobytes (P := P) w src dst e hs hd he l hl
  unfold Oper.wp execOp
  simp only [ho, Sem.run_bind, Sem.run_pure, Result.andThen_ok, hx, hr]
  exact hK _ _ (h c w' hm)

theorem Has.non {w w' : World} {size n : Nat} {v : Value} {xs : List Value} (h : Has w size v n xs) (hu : Upd Non w w') : Has w' size v n xs := h.upd hu fun _ _ h => h
/-- A row of bytes that may be written. -/
def RowB (w : World) (N : Nat) (l : List UInt8) : Prop := ∀ j (h : j < l.length), w.cell? ⟨N, j, none⟩ = some (.int .u8 (l[j].toNat : Int)) ∧ w.frozen? ⟨N, j, none⟩ = false
theorem Made.row {w w' : World} {l : List UInt8} {c : Nat} (h : Made w l c w') : RowB w' w.heap.size l := fun j hj => ⟨h.cell j hj, h.free j hj⟩
theorem RowB.bytes {w : World} {N c : Nat} {l : List UInt8} (h : RowB w N l) (hc : l.length ≤ c) (hm : c ≤ maxLen) : Bytes w (.slice (some ⟨N, 0, none⟩) l.length c) l :=
  ⟨by rw [bc_length, Nat.mul_one], _, _, rfl, hc, hm, .inr ⟨N, 0, rfl, fun j u hu => by
    obtain ⟨hj, rfl⟩ := (bc_get _ _ _).1 hu
    rw [Nat.zero_add]
    exact (h j hj).1⟩⟩
theorem RowB.set {w : World} {N j : Nat} {l : List UInt8} (h : RowB w N l) (hj : j < l.length) {x : Int} {b : UInt8} (hx : x = (b.toNat : Int)) : RowB (w.setCell ⟨N, j, none⟩ (.int .u8 x)) N (l.set j b) := by
  subst hx
  intro i hi
  have hi' : i < l.length := by simpa using hi
  refine ⟨?_, by rw [World.frozen?_setCell]; exact (h i hi').2⟩
  by_cases he : i = j
  · subst he
    rw [List.getElem_set_self]
    exact World.cell?_setCell_same' _ _ _ (by rw [(h i hi').1]; rfl)
  · rw [List.getElem_set_ne (Ne.symm he)]
    refine Eq.trans ?_ (h i hi').1
    exact World.cell?_setCell_other _ _ _ _ (fun e => he (by injection e with _ e _; exact e.symm))
end Go.Amb

namespace Go.Amb
open Go.RowKit

theorem step_app {P : Program} {w : World} {ops : Array Oper} {o : Oper} {a : Act} {K : Act → World → Prop} {Q : Exit → Act → World → Prop} {E : Prop} (hgd : o.guard = none) (s x : Operand) (t tx : TypeId)
    (ho : o.op = .call { callee := .builtin .append, args := #[s, x], argTypes := #[t, tx] })
    (base : Nat) (e : TypeId) (z : Value) (size bytes : Nat) (ht : P.underlying t = some (.slice e)) (hinfo : (P.info? e).map (fun i => (i.zero, i.size, i.bytes)) = some (some z, size, bytes))
    (hzs : z.cells.size = size)
    (v : Value) (n : Nat) (xs : List Value) (hs : a.eval s = v) (hown : w.ownsRow base e size v n xs)
    (xv : Value) (m : Nat) (news : List Value) (hx : a.eval x = xv) (hsrc : Src P size tx xv m news w)
    (h63 : n + m ≤ maxLen) (hbytes : (n + m) * bytes ≤ 140737488355328) (hbase : base ≤ w.heap.size)
    (h : ∀ v' w', w'.ownsRow base e size v' (n + m) (xs ++ news) → Upd (At v) w w' → (∀ k, At v' k → At v k ∨ w.heap.size ≤ k) → K (a.put o.dst v') w') :
    if Region.wanted o (yielded ops a.tmps) = true then Oper.wp P o a w K Q else E := by
  have hw : Region.wanted o (yielded ops a.tmps) = true := by simp [Region.wanted, hgd]
  rw [if_pos hw]
  obtain ⟨i, hi, hz, hsize, hby⟩ := info_parts hinfo
  obtain ⟨v', w', hr, h2, h3, h4, _⟩ := run_app (P := P) w base t tx o.type e i z size bytes ht hi hz hsize hby hzs v n xs hown xv m news hsrc h63 hbytes hbase
  unfold Oper.wp execOp
  simp only [ho, resolve, invoke, builtin, Sem.run_bind, Sem.run_pure, Result.andThen_ok, List.map_toArray, List.map_cons, List.map_nil, hs, hx, hr]
  exact h v' w' h2 h3 h4

/-- 'append(s, x)', x in a new block of one element, at a step of a region that draws its order. -/
theorem step_app1 {P : Program} {w : World} {ops : Array Oper} {o : Oper} {a : Act} {K : Act → World → Prop} {Q : Exit → Act → World → Prop} {E : Prop} (hgd : o.guard = none) (s x : Operand) (t : TypeId)
    (ho : o.op = .call { callee := .builtin .append, args := #[s, x], argTypes := #[t, t] })
    (base : Nat) (e : TypeId) (z : Value) (size bytes : Nat) (ht : P.underlying t = some (.slice e)) (hinfo : (P.info? e).map (fun i => (i.zero, i.size, i.bytes)) = some (some z, size, bytes))
    (hzs : z.cells.size = size) (v : Value) (n : Nat) (xs : List Value) (hs : a.eval s = v) (hown : w.ownsRow base e size v n xs) (cs : List Value) (N : Nat)
    (hx : a.eval x = .slice (some ⟨N, 0, none⟩) 1 1) (hN : N = w.heap.size) (hl : cs.length = size) (h1 : ∀ u ∈ cs, u.oneCell' = true)
    (h63 : n + 1 ≤ maxLen) (hbytes : (n + 1) * bytes ≤ 140737488355328) (hbase : base ≤ w.heap.size)
    (h : ∀ v' w', w'.ownsRow base e size v' (n + 1) (xs ++ cs) → Upd (At v) w w' → (∀ k, At v' k → At v k ∨ w.heap.size ≤ k) → K (a.put o.dst v') w') :
    if Region.wanted o (yielded ops a.tmps) = true then Oper.wp P o a (w.alloc (.cells cs.toArray e)).drew K Q else E := by
  subst hN
  exact step_app hgd s x t t ho base e z size bytes ht hinfo hzs v n xs hs ((hown.alloc _).drew) _ 1 cs hx (Src.ofHas ht ((has_new w cs e size 1 (by omega) (by unfold maxLen; omega)).upd (Upd.drew Non _) fun _ _ h => h) h1) h63 hbytes (by simp; omega)
    fun v' w' h2 h3 h4 => h v' w' h2 (((Upd.alloc (At v) w _).then_drew).trans h3 fun _ _ h => h) fun k hk => (h4 k hk).imp id fun h => by simp at h; omega

/-- As wpList_app1, the new block's number under a name of its own. -/
theorem wpList_app1n {P : Program} {w : World} {ops : Array Oper} {rest : List Oper} {o : Oper} {a : Act} {Q : Exit → Act → World → Prop} (hgd : o.guard = none) (s x : Operand) (t : TypeId)
    (ho : o.op = .call { callee := .builtin .append, args := #[s, x], argTypes := #[t, t] })
    (base : Nat) (e : TypeId) (z : Value) (size bytes : Nat) (ht : P.underlying t = some (.slice e)) (hinfo : (P.info? e).map (fun i => (i.zero, i.size, i.bytes)) = some (some z, size, bytes))
    (hzs : z.cells.size = size)
    (v : Value) (n : Nat) (xs : List Value) (hs : a.eval s = v) (hown : w.ownsRow base e size v n xs) (cs : List Value) (N : Nat)
    (hx : a.eval x = .slice (some ⟨N, 0, none⟩) 1 1) (hN : N = w.heap.size) (hl : cs.length = size) (h1 : ∀ u ∈ cs, u.oneCell' = true)
    (h63 : n + 1 ≤ maxLen) (hbytes : (n + 1) * bytes ≤ 140737488355328) (hbase : base ≤ w.heap.size)
    (h : ∀ v' w', w'.ownsRow base e size v' (n + 1) (xs ++ cs) → Upd (At v) w w' → (∀ k, At v' k → At v k ∨ w.heap.size ≤ k) → wpList P ops Q rest (a.put o.dst v') w') : wpList P ops Q (o :: rest) a (w.alloc (.cells cs.toArray e)) := by
  subst hN
  exact wpList_app1 hgd s x t ho base e z size bytes ht hinfo hzs v n xs hs hown cs hx hl h1 h63 hbytes hbase h
/-- 'append(s, x1, x2, ..)': they lie in a new block of m elements. -/
theorem wpList_appm {P : Program} {w : World} {ops : Array Oper} {rest : List Oper} {o : Oper} {a : Act} {Q : Exit → Act → World → Prop} (hgd : o.guard = none) (s x : Operand) (t : TypeId)
    (ho : o.op = .call { callee := .builtin .append, args := #[s, x], argTypes := #[t, t] })
    (base : Nat) (e : TypeId) (z : Value) (size bytes : Nat) (ht : P.underlying t = some (.slice e)) (hinfo : (P.info? e).map (fun i => (i.zero, i.size, i.bytes)) = some (some z, size, bytes))
    (hzs : z.cells.size = size)
    (v : Value) (n : Nat) (xs : List Value) (hs : a.eval s = v) (hown : w.ownsRow base e size v n xs) (cs : List Value) (m N : Nat)
    (hx : a.eval x = .slice (some ⟨N, 0, none⟩) m m) (hN : N = w.heap.size) (hl : cs.length = m * size) (h1 : ∀ u ∈ cs, u.oneCell' = true)
    (h63 : n + m ≤ maxLen) (hbytes : (n + m) * bytes ≤ 140737488355328) (hbase : base ≤ w.heap.size)
    (h : ∀ v' w', w'.ownsRow base e size v' (n + m) (xs ++ cs) → Upd (At v) w w' → (∀ k, At v' k → At v k ∨ w.heap.size ≤ k) → wpList P ops Q rest (a.put o.dst v') w') : wpList P ops Q (o :: rest) a (w.alloc (.cells cs.toArray e)) := by
  subst hN
  exact wpList_app hgd s x t t ho base e z size bytes ht hinfo hzs v n xs hs (hown.alloc _) _ m cs hx (Src.ofHas ht (has_new w cs e size m hl (by omega)) h1) h63 hbytes (by simp; omega)
    fun v' w' h2 h3 h4 => h v' w' h2 ((Upd.alloc (At v) w _).trans h3 fun _ _ h => h) fun k hk => (h4 k hk).imp id fun h => by simp at h; omega
theorem own_one {w : World} {base : Nat} {e : TypeId} {v : Value} {l : List UInt8} {N : Nat} (b : UInt8) (h : w.ownsRow base e 1 v N (bc l ++ [.int .u8 b.toNat])) : Own w base e v (l ++ [b]) := own_snoc h rfl
theorem one_cell (k : IntKind) (x : Int) : ∀ u ∈ [Value.int k x], u.oneCell' = true := by intro u hu; rw [List.mem_singleton] at hu; subst hu; rfl

/-- A slice of the call's own that grew: from v in w to v' in w'. -/
structure Grow (v : Value) (w : World) (v' : Value) (w' : World) : Prop where
  upd : Upd (At v) w w'
  own : ∀ k, At v' k → At v k ∨ w.heap.size ≤ k
theorem Grow.refl (v : Value) (w : World) : Grow v w v w := ⟨Upd.refl _ _, fun _ h => .inl h⟩
theorem Grow.trans {v1 v2 v3 : Value} {w1 w2 w3 : World} (h : Grow v1 w1 v2 w2) (k : Grow v2 w2 v3 w3) : Grow v1 w1 v3 w3 :=
  ⟨h.upd.trans k.upd fun j hj h' => (h.own j h').elim id fun h' => absurd hj (by omega), fun j hj => (k.own j hj).elim (h.own j) fun h' => .inr (Nat.le_trans h.upd.size h')⟩
theorem Grow.left {v v' : Value} {w1 w2 w3 : World} (h : Upd Non w1 w2) (k : Grow v w2 v' w3) : Grow v w1 v' w3 :=
  ⟨(Upd.non h : Upd (At v) w1 w2).trans k.upd fun _ _ h => h, fun j hj => (k.own j hj).elim .inl fun h' => .inr (Nat.le_trans h.size h')⟩
theorem Grow.right {v v' : Value} {w1 w2 w3 : World} (h : Grow v w1 v' w2) (k : Upd Non w2 w3) : Grow v w1 v' w3 :=
  ⟨h.upd.trans k fun _ _ h => h.elim, h.own⟩
theorem Grow.base {v v' : Value} {w w' : World} {B : Nat} (h : Grow v w v' w') (hB : ∀ k, At v k → B ≤ k) (hw : B ≤ w.heap.size) : ∀ k, At v' k → B ≤ k :=
  fun k hk => (h.own k hk).elim (hB k) fun h => Nat.le_trans hw h
theorem Grow.grew {base : Nat} {E : TypeId} {v v' : Value} {l : List UInt8} {w w' : World} (h : Grow v w v' w') (ho : Own w' base E v' l) : Grew base E v l w (.returned v') w' := ⟨v', rfl, ho, h.upd, h.own⟩
end Go.Amb
