/- What closes a law's row: the answer is true, and nothing that was there has turned. -/
import Derived.Test.YtmnoldikimcafaaMLib
import Derived.ProofKit
import Derived.Deep.CondSized
import Derived.JoinedCond
import Derived.OpenShut
namespace Go.Amb
open Go.RowKit Go.ChangeShapes Go.WideShapes Go.ChangeAt

theorem wf_bounds {n : Int} (h : (Lit.int .i64 n).wf = true) : -9223372036854775808 ≤ n ∧ n ≤ 9223372036854775807 := by
  simpa [Lit.wf, IntKind.min, IntKind.max, IntKind.signed, IntKind.bits] using h
theorem bytes_of (s : ByteArray) : ∃ l : List UInt8, s = ⟨l.toArray⟩ ∧ s.data.toList = l ∧ s.size = l.length := ⟨s.data.toList, by cases s; simp, rfl, rfl⟩

section
variable {H : Type} {enc : TypeId × Value → H} {P : Program}

theorem trodAll_stays (hl : laidOutB P = true) {W W' : World} (hb : Below W.heap.size W W') : ∀ (ts : List TypeId) (vs : List Value) (ds : List (DataW H)) (ps : List MemPlace),
    (∀ t ∈ ts, P.readableRec t = true ∧ t < P.types.size) → DataW.TrodAll enc P W 0 (fun _ => true) true ts vs ds ps → (∀ x ∈ ps, x.block < W.heap.size) →
    DataW.TrodAll enc P W' 0 (fun b => decide (b < W.heap.size)) true ts vs ds ps
  | [], vs, ds, ps, _, h, _ => by
    obtain ⟨rfl, rfl, rfl⟩ := trodAll_nil h
    exact trodAll_mk0
  | t :: ts, vs, ds, ps, hr, h, hlt => by
    obtain ⟨v, vs', d, ds', p, q, rfl, rfl, rfl, h1, h2⟩ := trodAll_cons h
    have hrt := hr t (List.mem_cons_self ..)
    have a := Below.trod hl hrt.1 hrt.2 h1 hb fun x hx => hlt x (List.mem_append_left _ hx)
    have b := trodAll_stays hl hb ts vs' ds' q (fun x hx => hr x (List.mem_cons_of_mem _ hx)) h2 fun x hx => hlt x (List.mem_append_right _ hx)
    exact ⟨p, q, a, b, rfl⟩

/-- A slice of integers that came in: what it reads as. -/
theorem open_has {W : World} {b0 : Nat} {t e : TypeId} {k : IntKind} {v : Value} {d : DataW H} {ps : List MemPlace} (ht : P.underlying t = some (.slice e)) (he : P.underlying e = some (.int k)) (hc : P.cellsOf e = 1)
    (hval : Value.okWide P W .any b0 t v) (hd : DataW.Trod enc P W 0 (fun _ => true) true t v d ps) :
    ∃ zs sp : List Int, Has W 1 v zs.length (zs.map (Value.int k)) ∧ (∀ n ∈ zs, (Lit.int k n).wf = true) ∧ ((d = .nil ∧ zs = []) ∨ d = .slice (lits k zs) (lits k sp)) ∧ (∀ j, At v j → 0 < zs.length → j < W.heap.size) := by
  obtain ⟨a0, len, cap, rfl⟩ := okWide_slice ht hval
  obtain ⟨fuel, hf⟩ := hd
  rcases open_ints ht he hc hf with ⟨hcs, hx⟩ | ⟨a, len', cap', zs, hcs, _, hl, hm, hz, hx, hcell, hwz⟩
  · simp [Value.cells] at hcs
    obtain ⟨rfl, rfl, rfl⟩ := hcs
    simp only [Prod.mk.injEq] at hx
    exact ⟨[], [], Has.nil W 1, (fun _ h => by cases h), .inl ⟨hx.1, rfl⟩, (fun j h => by cases h)⟩
  · simp [Value.cells] at hcs
    obtain ⟨rfl, rfl, rfl⟩ := hcs
    simp only [Prod.mk.injEq] at hx
    simp only [if_true] at hz
    have hn : (zs.take len).length = len := by rw [List.length_take]; omega
    refine ⟨zs.take len, zs.drop len, ⟨by simp, some a, cap, by rw [hn], by omega, hm, ?_⟩, fun n h => hwz n (List.mem_of_mem_take h), .inr hx.1, fun j hj h0 => ?_⟩
    · by_cases h0 : len = 0
      · exact .inl (by omega)
      · obtain ⟨b, off, spot⟩ := a
        have hspot : spot = none := by simpa [Addr.add] using World.cell?_spot (hcell 0 (by omega))
        subst hspot
        refine .inr ⟨b, off, rfl, fun j u hu => ?_⟩
        rw [List.getElem?_map, Option.map_eq_some_iff] at hu
        obtain ⟨z, hz', rfl⟩ := hu
        obtain ⟨hj, rfl⟩ := List.getElem?_eq_some_iff.1 hz'
        have := hcell j (by omega)
        rw [Addr.add_lit] at this
        rw [this]
        simp [List.getD, show j < zs.length by omega]
    · have := World.block_lt_of_cell? W _ (hcell 0 (by omega))
      simp only [At, Value.ownBlock, Option.some.injEq] at hj
      subst hj
      simpa [Addr.add] using this
/-- A slice of bytes that came in. -/
theorem open_bytes {W : World} {b0 : Nat} {t e : TypeId} {v : Value} {d : DataW H} {ps : List MemPlace} (ht : P.underlying t = some (.slice e)) (he : P.underlying e = some (.int .u8)) (hc : P.cellsOf e = 1)
    (hval : Value.okWide P W .any b0 t v) (hd : DataW.Trod enc P W 0 (fun _ => true) true t v d ps) :
    ∃ l : List UInt8, Bytes W v l ∧ (∃ zs sp : List Int, zs.length = l.length ∧ ((d = .nil ∧ zs = []) ∨ d = .slice (lits .u8 zs) (lits .u8 sp))) ∧ (∀ j, At v j → 0 < l.length → j < W.heap.size) := by
  obtain ⟨zs, sp, h, hw, hd, hlt⟩ := open_has ht he hc hval hd
  have e1 : zs.map (Value.int .u8) = bc (zs.map fun n => UInt8.ofNat n.toNat) := by
    simp only [bc, List.map_map]
    refine List.map_congr_left fun n hn => ?_
    have := hw n hn
    simp [Lit.wf, IntKind.min, IntKind.max, IntKind.signed, IntKind.bits] at this
    simp only [Function.comp, Value.int.injEq, true_and, UInt8.toNat_ofNat']
    omega
  rw [e1] at h
  refine ⟨zs.map fun n => UInt8.ofNat n.toNat, ?_, ⟨zs, sp, by simp, hd⟩, by simpa using hlt⟩
  unfold Bytes
  rw [List.length_map]
  exact h

theorem law_post {f : Func} {s : ChangeSpec} {apart fresh handsOn : Bool} {W W' : World} {args : Array Value} {ds gs : List (DataW H)} {before : List MemPlace} (boolT : TypeId)
    (hbool : P.underlying boolT = some .bool) (hrt : f.resultTypes = #[boolT]) (hl : laidOutB P = true) (hr : (f.params.toList.all fun t => P.readableRec t && decide (t < P.types.size)) = true)
    (hv : s.vars = []) (hW : DataW.Whole enc P f.params.toList s.vars apart W args.toList ds gs before)
    (er : (s.fn H (ds ++ gs)).results = [.lit (.bool true)]) (ea : (s.fn H (ds ++ gs)).args = ds) (ev : (s.fn H (ds ++ gs)).vars = [])
    (hb : Below W.heap.size W W') : s.post enc P f apart fresh handsOn false W args (.bool true) W' := by
  have hW' := hW
  obtain ⟨p, q, hA, hV, rfl, _, _⟩ := hW
  rw [hv] at hV
  obtain ⟨rfl, rfl⟩ := trodVars_none hV
  have hlt : ∀ x ∈ p, x.block < W.heap.size := fun x hx => by simpa using hW'.lt x (List.mem_append_left _ hx)
  refine ⟨ds, [], _, [], p, [], hW', ?_, ?_, ?_, hb.frame _, fun h => by cases h⟩
  · rw [er, hrt]
    exact trodAll_mk1 (shut_bool hbool true)
  · rw [ea]
    exact trodAll_stays hl hb _ _ _ _ (fun t ht => by have := List.all_eq_true.1 hr t ht; simpa using this) hA hlt
  · rw [ev, hv]
    rfl
end
end Go.Amb
