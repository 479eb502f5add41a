/- More of the seat's own laws: a struct of three cells stored anew. -/
import Derived.Test.YtfjcjppfihafgaaMLib
import Derived.Laws.IdiomStrings
namespace Go.Amb
open Go.RowKit

theorem set3 {w : World} {M : Nat} {c0 c1 c2 : Value} {t : TypeId} (h : w.heap[M]? = some (.cells #[c0, c1, c2] t (0, 0))) (a b c : Value) :
    (((w.setCell ⟨M, 0, none⟩ a).setCell ⟨M, 1, none⟩ b).setCell ⟨M, 2, none⟩ c).heap[M]? = some (.cells #[a, b, c] t (0, 0)) ∧
    Upd (fun k => k = M) w (((w.setCell ⟨M, 0, none⟩ a).setCell ⟨M, 1, none⟩ b).setCell ⟨M, 2, none⟩ c) := by
  refine ⟨?_, Upd.then_setCell (p := ⟨M, 2, none⟩) (Upd.then_setCell (p := ⟨M, 1, none⟩) (Upd.then_setCell (p := ⟨M, 0, none⟩) (Upd.refl (fun k => k = M) w) (fun _ => rfl) a) (fun _ => rfl) b) (fun _ => rfl) c⟩
  rw [heap_setCell_same _ M 2 _ _ _ (heap_setCell_same _ M 1 _ _ _ (heap_setCell_same _ M 0 _ _ _ h))]
  rfl
theorem set3u (w : World) (M : Nat) (a b c : Value) : Upd (fun k => k = M) w (((w.setCell ⟨M, 0, none⟩ a).setCell ⟨M, 1, none⟩ b).setCell ⟨M, 2, none⟩ c) :=
  Upd.then_setCell (p := ⟨M, 2, none⟩) (Upd.then_setCell (p := ⟨M, 1, none⟩) (Upd.then_setCell (p := ⟨M, 0, none⟩) (Upd.refl (fun k => k = M) w) (fun _ => rfl) a) (fun _ => rfl) b) (fun _ => rfl) c
theorem Upd.own1d {w w1 : World} {ca : Array Value} {ea : TypeId} (hu : Upd Non (w.alloc (.cells ca ea)).drew w1) :
    (∀ j, w1.cell? ⟨w.heap.size, j, none⟩ = ca[j]?) ∧ (∀ j, w1.frozen? ⟨w.heap.size, j, none⟩ = false) ∧ w.heap.size < w1.heap.size := by
  have h := (((Upd.drew Non (w.alloc (.cells ca ea))).trans hu fun _ _ h => h) : Upd Non (w.alloc (.cells ca ea)) w1).own1 (fun _ h => h.elim)
  exact ⟨h.1, h.2.1, h.2.2.1⟩
/-- A call behind the making of a block, in a region that draws its order: the block stands. -/
theorem ret_new {P : Program} {f : FuncId} {args : Array Value} {v : Value} (w : World) (h : ∀ w, Calls P f args w (Ret v w)) (ca : Array Value) (ea : TypeId) :
    Calls P f args (w.alloc (.cells ca ea)).drew fun e w' => e = .returned v ∧ Upd Non (w.alloc (.cells ca ea)).drew w' ∧ (∀ j, w'.cell? ⟨w.heap.size, j, none⟩ = ca[j]?) ∧ (∀ j, w'.frozen? ⟨w.heap.size, j, none⟩ = false) ∧ w.heap.size < w'.heap.size ∧ w'.heap[w.heap.size]? = some (.cells ca ea (0, 0)) :=
  (h _).mono fun _ _ ⟨he, hu⟩ => ⟨he, hu, hu.own1d.1, hu.own1d.2.1, hu.own1d.2.2, (((Upd.drew Non (w.alloc (.cells ca ea))).trans hu fun _ _ h => h) : Upd Non (w.alloc (.cells ca ea)) _).heap (heap_alloc_new w _) fun h => h⟩
theorem Upd.belowN {w w' : World} {B : Nat} (h : Upd Non w w') (hB : B ≤ w.heap.size) : Below B w w' := h.below hB fun _ _ h => h
theorem Upd.below1 {w w' : World} {B M : Nat} (h : Upd (fun k => k = M) w w') (hB : B ≤ w.heap.size) (hM : B ≤ M) : Below B w w' := h.below hB fun k hk e => by omega
theorem nonOf {w w' : World} (h : Below w.heap.size w w') : Upd Non w w' := Upd.of_fresh _ h

/-- What '[]byte(s)' gives: a new row of the bytes. -/
structure Made (w : World) (l : List UInt8) (c : Nat) (w' : World) : Prop where
  cap : l.length ≤ c
  max : c ≤ maxLen
  size : w'.heap.size = w.heap.size + 1
  cell : ∀ j (h : j < l.length), w'.cell? ⟨w.heap.size, j, none⟩ = some (.int .u8 (l[j].toNat : Int))
  free : ∀ j, j < l.length → w'.frozen? ⟨w.heap.size, j, none⟩ = false
  upd : Upd Non w w'
theorem Made.bytes {w w' : World} {l : List UInt8} {c : Nat} (h : Made w l c w') : Bytes w' (.slice (some ⟨w.heap.size, 0, none⟩) l.length c) l :=
  ⟨by rw [bc_length, Nat.mul_one], _, _, rfl, h.cap, h.max, .inr ⟨w.heap.size, 0, rfl, fun j u hu => by
    obtain ⟨hj, rfl⟩ := (bc_get _ _ _).1 hu
    rw [Nat.zero_add]
    exact h.cell j hj⟩⟩
theorem run_tobytes {P : Program} (w : World) (src dst e : TypeId) (hs : P.underlying src = some .string) (hd : P.underlying dst = some (.slice e)) (he : P.underlying e = some (.int .u8)) (l : List UInt8) (hl : l.length ≤ maxLen) :
    ∃ c w', (convert src dst (.string ⟨l.toArray⟩)).run P w = .ok (.slice (some ⟨w.heap.size, 0, none⟩) l.length c) w' ∧ Made w l c w' := by
  have hr := run_bytes_of_string (P := P) w src dst e ⟨l.toArray⟩ hs hd he
  have hsz : ByteArray.size ⟨l.toArray⟩ = l.length := by simp [ByteArray.size]
  rw [hsz] at hr
  refine ⟨_, _, hr, grownCap_ge _ _ _ _, grownCap_le_maxLen _ _ _ _ hl, by simp, fun j h => ?_, fun j h => ?_, (Upd.drew Non w).then_alloc _⟩
  · have := World.cell?_alloc_mark w.drew (bytesRow ⟨l.toArray⟩ (grownCap w l.length 0 e)) e ((bytesRow ⟨l.toArray⟩ (grownCap w l.length 0 e)).size, (bytesRow ⟨l.toArray⟩ (grownCap w l.length 0 e)).size + 1) j
    refine this.trans ?_
    unfold bytesRow
    rw [Array.getElem?_append_left (by simpa using h)]
    simp [h]
  · have hb : (w.drew.alloc (.cells (bytesRow ⟨l.toArray⟩ (grownCap w l.length 0 e)) e ((bytesRow ⟨l.toArray⟩ (grownCap w l.length 0 e)).size, (bytesRow ⟨l.toArray⟩ (grownCap w l.length 0 e)).size + 1))).heap[w.heap.size]? = some (.cells (bytesRow ⟨l.toArray⟩ (grownCap w l.length 0 e)) e ((bytesRow ⟨l.toArray⟩ (grownCap w l.length 0 e)).size, (bytesRow ⟨l.toArray⟩ (grownCap w l.length 0 e)).size + 1)) := heap_alloc_new w.drew _
    have hn : l.length ≤ (bytesRow ⟨l.toArray⟩ (grownCap w l.length 0 e)).size := by simp [bytesRow]
    unfold World.frozen?
    simp only [hb]
    rw [Bool.and_eq_false_iff]
    left
    simp
    omega
theorem wpList_tobytes {P : Program} {w : World} {ops : Array Oper} {rest : List Oper} {o : Oper} {a : Act} {Q : Exit → Act → World → Prop} (hgd : o.guard = none) (x : Operand) (src dst e : TypeId) (ho : o.op = .convert src dst x)
    (hs : P.underlying src = some .string) (hd : P.underlying dst = some (.slice e)) (he : P.underlying e = some (.int .u8)) (l : List UInt8) (hx : a.eval x = .string ⟨l.toArray⟩) (hl : l.length ≤ maxLen)
    (h : ∀ c w', Made w l c w' → wpList P ops Q rest (a.put o.dst (.slice (some ⟨w.heap.size, 0, none⟩) l.length c)) w') : wpList P ops Q (o :: rest) a w := by
  refine wpList_plain hgd fun K hK => ?_
  obtain ⟨c, w', hr, hm⟩ := run_tobytes (P := P) w src dst e hs hd he l hl
  unfold Oper.wp execOp
  simp only [ho, Sem.run_bind, Sem.run_pure, Result.andThen_ok, hx, hr]
  exact hK _ _ (h c w' hm)

theorem Has.non {w w' : World} {size n : Nat} {v : Value} {xs : List Value} (h : Has w size v n xs) (hu : Upd Non w w') : Has w' size v n xs := h.upd hu fun _ _ h => h
/-- A row of bytes that may be written. -/
def RowB (w : World) (N : Nat) (l : List UInt8) : Prop := ∀ j (h : j < l.length), w.cell? ⟨N, j, none⟩ = some (.int .u8 (l[j].toNat : Int)) ∧ w.frozen? ⟨N, j, none⟩ = false
theorem Made.row {w w' : World} {l : List UInt8} {c : Nat} (h : Made w l c w') : RowB w' w.heap.size l := fun j hj => ⟨h.cell j hj, h.free j hj⟩
theorem RowB.bytes {w : World} {N c : Nat} {l : List UInt8} (h : RowB w N l) (hc : l.length ≤ c) (hm : c ≤ maxLen) : Bytes w (.slice (some ⟨N, 0, none⟩) l.length c) l :=
  ⟨by rw [bc_length, Nat.mul_one], _, _, rfl, hc, hm, .inr ⟨N, 0, rfl, fun j u hu => by
    obtain ⟨hj, rfl⟩ := (bc_get _ _ _).1 hu
    rw [Nat.zero_add]
    exact (h j hj).1⟩⟩
theorem RowB.set {w : World} {N j : Nat} {l : List UInt8} (h : RowB w N l) (hj : j < l.length) {x : Int} {b : UInt8} (hx : x = (b.toNat : Int)) : RowB (w.setCell ⟨N, j, none⟩ (.int .u8 x)) N (l.set j b) := by
  subst hx
  intro i hi
  have hi' : i < l.length := by simpa using hi
  refine ⟨?_, by rw [World.frozen?_setCell]; exact (h i hi').2⟩
  by_cases he : i = j
  · subst he
    rw [List.getElem_set_self]
    exact World.cell?_setCell_same' _ _ _ (by rw [(h i hi').1]; rfl)
  · rw [List.getElem_set_ne (Ne.symm he)]
    refine Eq.trans ?_ (h i hi').1
    exact World.cell?_setCell_other _ _ _ _ (fun e => he (by injection e with _ e _; exact e.symm))
end Go.Amb
