/- What closes a law's row: the answer is true, and nothing that was there has turned. -/
import Derived.Test.YtogekobpjjmnjaaGreatMLib
import Derived.ProofKit
import Derived.Deep.CondSized
import Derived.JoinedCond
import Derived.OpenShut
import Derived.Deep.Slices
import Derived.SizedLaws
import Derived.Deep.Fields
namespace Go.Amb
open Go.RowKit Go.ChangeShapes Go.WideShapes Go.ChangeAt

theorem wf_bounds {n : Int} (h : (Lit.int .i64 n).wf = true) : -9223372036854775808 ≤ n ∧ n ≤ 9223372036854775807 := by
  simpa [Lit.wf, IntKind.min, IntKind.max, IntKind.signed, IntKind.bits] using h
theorem bytes_of (s : ByteArray) : ∃ l : List UInt8, s = ⟨l.toArray⟩ ∧ s.data.toList = l ∧ s.size = l.length := ⟨s.data.toList, by cases s; simp, rfl, rfl⟩

section
variable {H : Type} {enc : TypeId × Value → H} {P : Program}

theorem trodAll_stays (hl : laidOutB P = true) {W W' : World} (hb : Below W.heap.size W W') : ∀ (ts : List TypeId) (vs : List Value) (ds : List (DataW H)) (ps : List MemPlace),
    (∀ t ∈ ts, P.readableRec t = true ∧ t < P.types.size) → DataW.TrodAll enc P W 0 (fun _ => true) true ts vs ds ps → (∀ x ∈ ps, x.block < W.heap.size) →
    DataW.TrodAll enc P W' 0 (fun b => decide (b < W.heap.size)) true ts vs ds ps
  | [], vs, ds, ps, _, h, _ => by
    obtain ⟨rfl, rfl, rfl⟩ := trodAll_nil h
    exact trodAll_mk0
  | t :: ts, vs, ds, ps, hr, h, hlt => by
    obtain ⟨v, vs', d, ds', p, q, rfl, rfl, rfl, h1, h2⟩ := trodAll_cons h
    have hrt := hr t (List.mem_cons_self ..)
    have a := Below.trod hl hrt.1 hrt.2 h1 hb fun x hx => hlt x (List.mem_append_left _ hx)
    have b := trodAll_stays hl hb ts vs' ds' q (fun x hx => hr x (List.mem_cons_of_mem _ hx)) h2 fun x hx => hlt x (List.mem_append_right _ hx)
    exact ⟨p, q, a, b, rfl⟩

/-- A slice of integers that came in: what it reads as. -/
theorem open_has {W : World} {b0 : Nat} {t e : TypeId} {k : IntKind} {v : Value} {d : DataW H} {ps : List MemPlace} (ht : P.underlying t = some (.slice e)) (he : P.underlying e = some (.int k)) (hc : P.cellsOf e = 1)
    (hval : Value.okWide P W .any b0 t v) (hd : DataW.Trod enc P W 0 (fun _ => true) true t v d ps) :
    ∃ zs sp : List Int, Has W 1 v zs.length (zs.map (Value.int k)) ∧ (∀ n ∈ zs, (Lit.int k n).wf = true) ∧ ((d = .nil ∧ zs = []) ∨ d = .slice (lits k zs) (lits k sp)) ∧ (∀ j, At v j → 0 < zs.length → j < W.heap.size) := by
  obtain ⟨a0, len, cap, rfl⟩ := okWide_slice ht hval
  obtain ⟨fuel, hf⟩ := hd
  rcases open_ints ht he hc hf with ⟨hcs, hx⟩ | ⟨a, len', cap', zs, hcs, _, hl, hm, hz, hx, hcell, hwz⟩
  · simp [Value.cells] at hcs
    obtain ⟨rfl, rfl, rfl⟩ := hcs
    simp only [Prod.mk.injEq] at hx
    exact ⟨[], [], Has.nil W 1, (fun _ h => by cases h), .inl ⟨hx.1, rfl⟩, (fun j h => by cases h)⟩
  · simp [Value.cells] at hcs
    obtain ⟨rfl, rfl, rfl⟩ := hcs
    simp only [Prod.mk.injEq] at hx
    simp only [if_true] at hz
    have hn : (zs.take len).length = len := by rw [List.length_take]; omega
    refine ⟨zs.take len, zs.drop len, ⟨by simp, some a, cap, by rw [hn], by omega, hm, ?_⟩, fun n h => hwz n (List.mem_of_mem_take h), .inr hx.1, fun j hj h0 => ?_⟩
    · by_cases h0 : len = 0
      · exact .inl (by omega)
      · obtain ⟨b, off, spot⟩ := a
        have hspot : spot = none := by simpa [Addr.add] using World.cell?_spot (hcell 0 (by omega))
        subst hspot
        refine .inr ⟨b, off, rfl, fun j u hu => ?_⟩
        rw [List.getElem?_map, Option.map_eq_some_iff] at hu
        obtain ⟨z, hz', rfl⟩ := hu
        obtain ⟨hj, rfl⟩ := List.getElem?_eq_some_iff.1 hz'
        have := hcell j (by omega)
        rw [Addr.add_lit] at this
        rw [this]
        simp [List.getD, show j < zs.length by omega]
    · have := World.block_lt_of_cell? W _ (hcell 0 (by omega))
      simp only [At, Value.ownBlock, Option.some.injEq] at hj
      subst hj
      simpa [Addr.add] using this
/-- A slice of bytes that came in. -/
theorem open_bytes {W : World} {b0 : Nat} {t e : TypeId} {v : Value} {d : DataW H} {ps : List MemPlace} (ht : P.underlying t = some (.slice e)) (he : P.underlying e = some (.int .u8)) (hc : P.cellsOf e = 1)
    (hval : Value.okWide P W .any b0 t v) (hd : DataW.Trod enc P W 0 (fun _ => true) true t v d ps) :
    ∃ l : List UInt8, Bytes W v l ∧ (∃ zs sp : List Int, zs.length = l.length ∧ ((d = .nil ∧ zs = []) ∨ d = .slice (lits .u8 zs) (lits .u8 sp))) ∧ (∀ j, At v j → 0 < l.length → j < W.heap.size) := by
  obtain ⟨zs, sp, h, hw, hd, hlt⟩ := open_has ht he hc hval hd
  have e1 : zs.map (Value.int .u8) = bc (zs.map fun n => UInt8.ofNat n.toNat) := by
    simp only [bc, List.map_map]
    refine List.map_congr_left fun n hn => ?_
    have := hw n hn
    simp [Lit.wf, IntKind.min, IntKind.max, IntKind.signed, IntKind.bits] at this
    simp only [Function.comp, Value.int.injEq, true_and, UInt8.toNat_ofNat']
    omega
  rw [e1] at h
  refine ⟨zs.map fun n => UInt8.ofNat n.toNat, ?_, ⟨zs, sp, by simp, hd⟩, by simpa using hlt⟩
  unfold Bytes
  rw [List.length_map]
  exact h

theorem law_post {f : Func} {s : ChangeSpec} {apart fresh handsOn : Bool} {W W' : World} {args : Array Value} {ds gs : List (DataW H)} {before : List MemPlace} (boolT : TypeId)
    (hbool : P.underlying boolT = some .bool) (hrt : f.resultTypes = #[boolT]) (hl : laidOutB P = true) (hr : (f.params.toList.all fun t => P.readableRec t && decide (t < P.types.size)) = true)
    (hv : s.vars = []) (hW : DataW.Whole enc P f.params.toList s.vars apart W args.toList ds gs before)
    (er : (s.fn H (ds ++ gs)).results = [.lit (.bool true)]) (ea : (s.fn H (ds ++ gs)).args = ds) (ev : (s.fn H (ds ++ gs)).vars = [])
    (hb : Below W.heap.size W W') : s.post enc P f apart fresh handsOn false W args (.bool true) W' := by
  have hW' := hW
  obtain ⟨p, q, hA, hV, rfl, _, _⟩ := hW
  rw [hv] at hV
  obtain ⟨rfl, rfl⟩ := trodVars_none hV
  have hlt : ∀ x ∈ p, x.block < W.heap.size := fun x hx => by simpa using hW'.lt x (List.mem_append_left _ hx)
  refine ⟨ds, [], _, [], p, [], hW', ?_, ?_, ?_, hb.frame _, fun h => by cases h⟩
  · rw [er, hrt]
    exact trodAll_mk1 (shut_bool hbool true)
  · rw [ea]
    exact trodAll_stays hl hb _ _ _ _ (fun t ht => by have := List.all_eq_true.1 hr t ht; simpa using this) hA hlt
  · rw [ev, hv]
    rfl
end
end Go.Amb

namespace Go.Amb
open Go.RowKit Go.ChangeShapes Go.WideShapes Go.ChangeAt Go.Deep

theorem flat_get {α : Type} {size : Nat} (h0 : 0 < size) : ∀ (rows : List (List α)), (∀ r ∈ rows, r.length = size) → ∀ q, rows.flatten[q]? = (rows[q / size]?).bind fun r => r[q % size]?
  | [], _, q => by simp
  | r :: rows, h, q => by
    have hr := h r (List.mem_cons_self ..)
    rw [List.flatten_cons]
    by_cases hq : q < size
    · rw [List.getElem?_append_left (by omega), Nat.div_eq_of_lt hq, Nat.mod_eq_of_lt hq]
      rfl
    · have e1 : q = (q - size) + size := by omega
      rw [List.getElem?_append_right (by omega), hr, flat_get h0 rows (fun x hx => h x (List.mem_cons_of_mem _ hx)) (q - size)]
      conv => rhs; rw [e1, Nat.add_div_right _ h0, Nat.add_mod_right]
      rfl
theorem flat_length {α : Type} {size : Nat} : ∀ (rows : List (List α)), (∀ r ∈ rows, r.length = size) → rows.flatten.length = rows.length * size
  | [], _ => by simp
  | r :: rows, h => by
    rw [List.flatten_cons, List.length_append, h r (List.mem_cons_self ..), flat_length rows (fun x hx => h x (List.mem_cons_of_mem _ hx)), List.length_cons, Nat.add_mul]
    omega
theorem rows_map {α β : Type} {f : β → List α} {good : β → Prop} : ∀ (rows : List (List α)), (∀ r ∈ rows, ∃ x, r = f x ∧ good x) → ∃ xs : List β, rows = xs.map f ∧ ∀ x ∈ xs, good x
  | [], _ => ⟨[], rfl, fun _ h => by cases h⟩
  | r :: rows, h => by
    obtain ⟨x, rfl, hx⟩ := h r (List.mem_cons_self ..)
    obtain ⟨xs, rfl, hxs⟩ := rows_map rows (fun y hy => h y (List.mem_cons_of_mem _ hy))
    exact ⟨x :: xs, rfl, fun y hy => by
      rcases List.mem_cons.1 hy with rfl | hy
      · exact hx
      · exact hxs y hy⟩

section
variable {H : Type} {enc : TypeId × Value → H} {P : Program}

/-- A slice that came in: its rows. -/
theorem open_rows {W : World} {t e : TypeId} {size : Nat} {v : Value} {d : DataW H} {n : Nat} {ps : List MemPlace} (ht : P.underlying t = some (.slice e)) (hC : P.cellsOf e = size) (h0 : 0 < size)
    (hd : DataW.trod enc P W 0 (fun _ => true) true n t [v] = some (d, ps)) :
    ∃ rows : List (List Value), Has W size v rows.length rows.flatten ∧ (∀ j, At v j → 0 < rows.length → j < W.heap.size) ∧
      ((d = .nil ∧ rows = []) ∨ ∃ el sp : List (DataW H), d = .slice el sp ∧ el.length = rows.length ∧ ∀ i (hi : i < rows.length) (hj : i < el.length), ∃ m p, DataW.trod enc P W 0 (fun _ => true) true m e rows[i] = some (el[i], p)) ∧
      ∀ r ∈ rows, r.length = size ∧ ∃ m x, DataW.trod enc P W 0 (fun _ => true) true m e r = some x := by
  rcases open_slice ht hd with ⟨hv, hx⟩ | ⟨a, len, cap, m, m', D, Pl, hv, _, hl, hm, hmm, hx, hi⟩
  · simp at hv hx
    obtain ⟨rfl, rfl⟩ := hx
    subst hv
    exact ⟨[], Has.nil W size, (fun j h => by cases h), .inl ⟨rfl, rfl⟩, (fun _ h => by cases h)⟩
  · simp only [List.cons.injEq, and_true] at hv
    subst hv
    simp only [if_true] at hmm
    simp only [Prod.mk.injEq] at hx
    rw [hC] at hi
    obtain ⟨F, hF⟩ := choose_lt (n := len) (p := fun i cs => W.cells? 0 (a.add (i * size)) size = some cs ∧ DataW.trod enc P W 0 (fun _ => true) true m' e cs = some (D i, Pl i)) fun i h => hi i (by omega)
    have hlen : ∀ r ∈ (List.range len).map F, r.length = size := by
      intro r hr
      obtain ⟨i, hi', rfl⟩ := List.mem_map.1 hr
      exact (World.cells?_some (hF i (List.mem_range.1 hi')).1).2.1
    have hcell : ∀ i j, i < len → j < size → W.cell? (a.add (i * size + j)) = (F i)[j]? := by
      intro i j h1 h2
      have := (World.cells?_some (hF i h1).1).2.2 j h2
      rwa [Go.Deep.add_add] at this
    have hfl : ((List.range len).map F).length = len := by simp
    have hrow : ∀ r ∈ (List.range len).map F, r.length = size ∧ ∃ m x, DataW.trod enc P W 0 (fun _ => true) true m e r = some x := by
      intro r hr
      refine ⟨hlen r hr, ?_⟩
      obtain ⟨i, hi', rfl⟩ := List.mem_map.1 hr
      exact ⟨_, _, (hF i (List.mem_range.1 hi')).2⟩
    refine ⟨(List.range len).map F, ?_, ?_, .inr ⟨_, _, hx.1, by simp, fun i hi1 hi2 => ?_⟩, hrow⟩
    · rw [hfl]
      refine ⟨by rw [flat_length _ hlen, hfl], some a, cap, rfl, hl, hm, ?_⟩
      by_cases hz : len = 0
      · exact .inl hz
      · have h00 := hcell 0 0 (by omega) h0
        have hne : (F 0)[0]? ≠ none := by
          have := (World.cells?_some (hF 0 (by omega)).1).2.1
          rw [ne_eq, List.getElem?_eq_none_iff]; omega
        obtain ⟨u, hu⟩ := Option.ne_none_iff_exists'.1 hne
        rw [hu] at h00
        obtain ⟨b, off, spot⟩ := a
        have hspot : spot = none := by simpa [Addr.add] using World.cell?_spot h00
        subst hspot
        refine .inr ⟨b, off, rfl, fun q u hq => ?_⟩
        rw [flat_get h0 _ hlen, List.getElem?_map, Option.bind_eq_some_iff] at hq
        obtain ⟨r, hr, hru⟩ := hq
        rw [Option.map_eq_some_iff] at hr
        obtain ⟨i, hi1, rfl⟩ := hr
        obtain ⟨hi2, rfl⟩ := List.getElem?_eq_some_iff.1 hi1
        simp only [List.getElem_range] at hru
        simp only [List.length_range] at hi2
        have hc := hcell (q / size) (q % size) hi2 (Nat.mod_lt _ h0)
        rw [Nat.mul_comm, Nat.div_add_mod, Addr.add_lit, hru] at hc
        exact hc
    · intro j hj hp
      rw [hfl] at hp
      have h00 := hcell 0 0 hp h0
      have hne : (F 0)[0]? ≠ none := by
        have := (World.cells?_some (hF 0 hp).1).2.1
        rw [ne_eq, List.getElem?_eq_none_iff]; omega
      obtain ⟨u, hu⟩ := Option.ne_none_iff_exists'.1 hne
      rw [hu] at h00
      have := World.block_lt_of_cell? W _ h00
      simp only [At, Value.ownBlock, Option.some.injEq] at hj
      subst hj
      simpa [Addr.add] using this
    · simp only [List.length_map, List.length_range] at hi1
      simp only [List.getElem_map, List.getElem_range]
      exact ⟨m', Pl i, (hF i hi1).2⟩

/-- A slice argument is one cell. -/
theorem slice_cells {W : World} {b0 : Nat} {t e : TypeId} {v : Value} {d : DataW H} {ps : List MemPlace} (ht : P.underlying t = some (.slice e)) (hval : Value.okWide P W .any b0 t v) (hd : DataW.Trod enc P W 0 (fun _ => true) true t v d ps) :
    ∃ n, DataW.trod enc P W 0 (fun _ => true) true n t [v] = some (d, ps) := by
  obtain ⟨a0, len, cap, rfl⟩ := okWide_slice ht hval
  obtain ⟨fuel, hf⟩ := hd
  exact ⟨fuel, hf⟩

/-- The reach of a slice of bytes. -/
theorem reach_bytes {ts : List TypeId} {ds : List (DataW H)} (h : (DataW.weightsEach P ts ds).all (· ≤ reachBytes) = true) {j : Nat} {t e : TypeId} {d : DataW H} {l : List UInt8} (ht : ts[j]? = some t) (hd : ds[j]? = some d) (hu : P.underlying t = some (.slice e)) (hb : P.bytesOf e = 1)
    (hx : ∃ zs sp : List Int, zs.length = l.length ∧ ((d = .nil ∧ zs = []) ∨ d = .slice (lits .u8 zs) (lits .u8 sp))) : l.length ≤ 140737488351232 := by
  obtain ⟨zs, sp, hl, hx⟩ := hx
  rw [← hl]
  rcases hx with ⟨_, rfl⟩ | rfl
  · simp
  · have := sized_slice h ht hd hu
    rw [hb] at this
    have e1 : (lits (H := H) .u8 zs).length = zs.length := by simp [lits]
    have e2 : reachBytes = 140737488351232 := by decide
    omega

theorem weights_all {e : TypeId} : ∀ (el : List (DataW H)) (i : Nat) (h : i < el.length), ∀ n ∈ el[i].weights P e, n ∈ DataW.weightsAll P e el
  | d :: el, 0, _, n, hn => by simp only [DataW.weightsAll, List.mem_append]; exact .inl hn
  | d :: el, i + 1, h, n, hn => by simp only [DataW.weightsAll, List.mem_append]; exact .inr (weights_all el i (by simpa using h) n hn)
/-- A slice that came in: the reach of its rows. -/
theorem rows_sized {W : World} {ts : List TypeId} {ds : List (DataW H)} (hsz : (DataW.weightsEach P ts ds).all (· ≤ reachBytes) = true) {j : Nat} {t e : TypeId} {d : DataW H} {rows : List (List Value)} (ht : ts[j]? = some t) (hd : ds[j]? = some d) (hu : P.underlying t = some (.slice e))
    (hx : (d = .nil ∧ rows = []) ∨ ∃ el sp : List (DataW H), d = .slice el sp ∧ el.length = rows.length ∧ ∀ i (hi : i < rows.length) (hj : i < el.length), ∃ m p, DataW.trod enc P W 0 (fun _ => true) true m e rows[i] = some (el[i], p)) :
    ∀ r ∈ rows, ∃ m x, DataW.trod enc P W 0 (fun _ => true) true m e r = some x ∧ ∀ n ∈ x.1.weights P e, n ≤ 140737488351232 := by
  intro r hr
  rcases hx with ⟨_, rfl⟩ | ⟨el, sp, rfl, hl, hx⟩
  · cases hr
  · obtain ⟨i, hi, rfl⟩ := List.getElem_of_mem hr
    obtain ⟨m, p, hm⟩ := hx i hi (by omega)
    refine ⟨m, _, hm, fun n hn => ?_⟩
    have h1 := List.all_eq_true.1 hsz n (DataW.weights_mem_each ht hd n (by
      simp only [DataW.weights, hu, List.mem_cons, List.mem_append]
      exact .inr (.inl (weights_all el i (by omega) n hn))))
    have e2 : reachBytes = 140737488351232 := by decide
    simpa [e2] using h1

/-- A row of a struct whose fields are a cell each. -/
theorem row_fields {W : World} {e : TypeId} {fs : Array Field} {m : Nat} {r : List Value} {x : DataW H × List MemPlace} (he : P.underlying e = some (.struct fs)) (hone : oneCellFields P fs = true) (hr : r.length = fs.size)
    (hd : DataW.trod enc P W 0 (fun _ => true) true m e r = some x) :
    ∃ (ys : List (DataW H × List MemPlace)) (n : Nat), x.1 = .agg (ys.map (·.1)) ∧ ys.length = fs.size ∧ ∀ (j : Nat) (f : Field), fs[j]? = some f → ∃ (v : Value) (y : DataW H × List MemPlace), r[j]? = some v ∧ ys[j]? = some y ∧ DataW.trod enc P W 0 (fun _ => true) true n f.type [v] = some y := by
  obtain ⟨ys, n, _, rfl, _, hlen, hf⟩ := DataW.trod_struct he hd
  refine ⟨ys, n, rfl, hlen, fun j f hj => ?_⟩
  obtain ⟨ho, hk⟩ := hone_of hone j f hj
  have hjl : j < fs.size := (Array.getElem?_eq_some_iff.1 hj).1
  have h1 := hf j f hj
  rw [ho, hk] at h1
  have e1 : (r.drop j).take 1 = [r[j]'(by omega)] := by rw [List.drop_eq_getElem_cons (by omega)]; rfl
  rw [e1] at h1
  have e2 : ys[j]? = some (ys[j]'(by omega)) := List.getElem?_eq_getElem (by omega)
  exact ⟨_, _, List.getElem?_eq_getElem (by omega), e2, h1.trans e2⟩

/-- A row of a struct of two integers. -/
theorem row_int2 {W : World} {e t0 t1 : TypeId} {f0 f1 : Field} {m : Nat} {r : List Value} {x : DataW H × List MemPlace} (he : P.underlying e = some (.struct #[f0, f1])) (hr : r.length = 2)
    (h0 : (f0.type, f0.offset, P.cellsOf f0.type, P.underlying f0.type) = (t0, 0, 1, some (.int .i64))) (h1 : (f1.type, f1.offset, P.cellsOf f1.type, P.underlying f1.type) = (t1, 1, 1, some (.int .i64)))
    (hd : DataW.trod enc P W 0 (fun _ => true) true m e r = some x) : ∃ q : Int × Int, r = [.int .i64 q.1, .int .i64 q.2] ∧ ((-9223372036854775808 ≤ q.1 ∧ q.1 ≤ 9223372036854775807) ∧ -9223372036854775808 ≤ q.2 ∧ q.2 ≤ 9223372036854775807) := by
  simp only [Prod.mk.injEq] at h0 h1
  obtain ⟨xs, n, _, rfl, _, hlen, hf⟩ := DataW.trod_struct he hd
  have g0 := hf 0 f0 rfl
  have g1 := hf 1 f1 rfl
  match r, hr with
  | [c0, c1], _ =>
    rw [h0.2.1, h0.2.2.1] at g0
    rw [h1.2.1, h1.2.2.1] at g1
    match xs, hlen with
    | [y0, y1], _ =>
      obtain ⟨n0, e0, _, w0⟩ := DataW.trod_int h0.2.2.2 g0
      obtain ⟨n1, e1, _, w1⟩ := DataW.trod_int h1.2.2.2 g1
      simp at e0 e1
      subst e0; subst e1
      exact ⟨(n0, n1), rfl, wf_bounds w0, wf_bounds w1⟩
end
end Go.Amb
