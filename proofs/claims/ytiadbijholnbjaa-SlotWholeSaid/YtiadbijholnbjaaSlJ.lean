/- Plain laws: what a record was cut into is joined to the record. -/
import Derived.Test.YtiadbijholnbjaaSlH
namespace Go.Proofs.Ytiadbijholnbjaa
open Go.RowKit Go.Amb
/-- A record's slot i. -/
def slotI (e q : Int) (s : List UInt8) (i : Nat) : S5 := ⟨e, q + i, decide (i = 0), decide (i + 1 = pieceN s), pieceB s i⟩
theorem cutS_eq (e q : Int) (s : List UInt8) : cutS e q s = (List.range' 0 (pieceN s)).map (slotI e q s) := by
  unfold cutS slotI; rw [List.range_eq_range']
theorem slotI_right {e q : Int} {s : List UInt8} (hk : cutOk e q s) {i : Nat} (hi : i < pieceN s) : rightS (slotI e q s i) = true := by
  obtain ⟨h1, h2, h3, h4⟩ := hk
  refine decide_eq_true ⟨h2, ⟨?_, ?_⟩, ?_⟩
  · simp only [slotI]; omega
  · simp only [slotI]; omega
  · simp only [slotI, pieceB, List.length_take]; omega
theorem take_piece (s : List UInt8) (k : Nat) : s.take (108 * k) ++ pieceB s k = s.take (108 * (k + 1)) := by
  unfold pieceB
  rw [show 108 * (k + 1) = 108 * k + 108 by omega, List.take_add]
theorem take_all (s : List UInt8) : s.take (108 * pieceN s) = s := List.take_of_length_le (by unfold pieceN; omega)
theorem join_from {e q : Int} {s : List UInt8} (hk : cutOk e q s) (out : List R3) (next : Int) (rest : List S5) : ∀ (m k : Nat), 1 ≤ k → 1 ≤ m → k + m = pieceN s →
    joinGo (some (slotI e q s (k - 1))) ⟨out, next, s.take (108 * k), q⟩ ((List.range' k m).map (slotI e q s) ++ rest) = joinGo (some (slotI e q s (pieceN s - 1))) ⟨out ++ [⟨q, q + pieceN s, s⟩], q + pieceN s, s, -1⟩ rest := by
  intro m
  induction m with
  | zero => intro k _ h; omega
  | succ m ih =>
    intro k h1 _ hN
    rw [List.range'_succ, List.map_cons, List.cons_append, joinGo]
    have hok : joinOk (some (slotI e q s (k - 1))) q (slotI e q s k) = true := by
      have hr := slotI_right hk (i := k) (by omega)
      have hq := hk.2.2.1
      simp only [joinOk, hr, Bool.true_and, Bool.and_eq_true, folS, decide_eq_true_eq, slotI, beq_iff_eq]
      refine ⟨⟨hr, by omega, .inl trivial⟩, ?_⟩
      rw [decide_eq_false (by omega : ¬ k = 0), decide_eq_false (by omega : ¬ q < 0)]
    rw [if_pos hok]
    have hf : (slotI e q s k).f = false := decide_eq_false (by omega)
    by_cases hm : m = 0
    · subst hm
      have hl : (slotI e q s k).l = true := decide_eq_true hN
      rw [show (List.range' (k + 1) 0).map (slotI e q s) ++ rest = rest from rfl]
      rw [show pieceN s - 1 = k by omega]
      unfold joinNext
      rw [hl, hf]
      simp only [if_true, Bool.false_eq_true, if_false]
      rw [show (slotI e q s k).d = pieceB s k from rfl, take_piece, hN, take_all]
      rw [show (slotI e q s k).q + 1 = q + (pieceN s : Int) by simp only [slotI]; omega]
    · have hl : (slotI e q s k).l = false := decide_eq_false (by omega)
      have := ih (k + 1) (by omega) (by omega) (by omega)
      rw [Nat.add_sub_cancel] at this
      rw [← this]
      unfold joinNext
      rw [hl, hf]
      simp only [Bool.false_eq_true, if_false]
      rw [show (slotI e q s k).d = pieceB s k from rfl, take_piece]
/-- A record's slots are joined to the record. -/
theorem join_cut {e q : Int} {s : List UInt8} (hk : cutOk e q s) (p : Option S5) (out : List R3) (next : Int) (da : List UInt8) (op : Int) (hop : op < 0) (hp : ∀ a, p = some a → folS a (slotI e q s 0) = true) (rest : List S5) :
    joinGo p ⟨out, next, da, op⟩ (cutS e q s ++ rest) = joinGo (some (slotI e q s (pieceN s - 1))) ⟨out ++ [⟨q, q + pieceN s, s⟩], q + pieceN s, s, -1⟩ rest := by
  have hN := pieceN_pos s
  obtain ⟨m, hm⟩ : ∃ m, pieceN s = m + 1 := ⟨pieceN s - 1, by omega⟩
  rw [cutS_eq, hm, List.range'_succ, List.map_cons, List.cons_append, joinGo]
  have hok : joinOk p op (slotI e q s 0) = true := by
    have hr := slotI_right hk (i := 0) (by omega)
    unfold joinOk
    rw [hr, show (slotI e q s 0).f = true from rfl, decide_eq_true hop]
    cases p with
    | none => rfl
    | some a => simp only [hp a rfl]; rfl
  rw [if_pos hok]
  have hd0 : pieceB s 0 = s.take (108 * 1) := by have := take_piece s 0; simpa using this
  by_cases hm0 : m = 0
  · subst hm0
    have hl : (slotI e q s 0).l = true := decide_eq_true (by omega)
    unfold joinNext
    rw [hl, show (slotI e q s 0).f = true from rfl]
    simp only [if_true, List.nil_append]
    rw [show (slotI e q s 0).d = pieceB s 0 from rfl, hd0]
    have ht := take_all s
    rw [hm] at ht
    rw [show (108 * 1 : Nat) = 108 * (0 + 1) from rfl, ht]
    rw [show (slotI e q s 0).q = q by simp [slotI]]
    rfl
  · have hl : (slotI e q s 0).l = false := decide_eq_false (by omega)
    have := join_from hk out next rest m 1 (Nat.le_refl _) (by omega) (by omega)
    rw [hm] at this
    rw [← this]
    unfold joinNext
    rw [hl, show (slotI e q s 0).f = true from rfl]
    simp only [if_true, Bool.false_eq_true, if_false, List.nil_append]
    rw [show (slotI e q s 0).d = pieceB s 0 from rfl, hd0, show (slotI e q s 0).q = q by simp [slotI]]
theorem cutS_cons (e q : Int) (s : List UInt8) : ∃ r, cutS e q s = slotI e q s 0 :: r := by
  have hN := pieceN_pos s
  obtain ⟨m, hm⟩ : ∃ m, pieceN s = m + 1 := ⟨pieceN s - 1, by omega⟩
  exact ⟨_, by rw [cutS_eq, hm, List.range'_succ, List.map_cons]⟩
theorem joinS_cut {e q : Int} {s : List UInt8} (hk : cutOk e q s) (rest : List S5) : joinS (cutS e q s ++ rest) = joinGo (some (slotI e q s (pieceN s - 1))) ⟨[⟨q, q + pieceN s, s⟩], q + pieceN s, s, -1⟩ rest := by
  obtain ⟨r, hr⟩ := cutS_cons e q s
  have := join_cut hk none [] q [] (-1) (by decide) (fun _ h => by cases h) rest
  rw [List.nil_append] at this
  rw [← this, hr, List.cons_append, joinS]
  rw [show (slotI e q s 0).q = q by simp [slotI]]
/-- What does not follow ends the joining. -/
theorem join_stop (a : S5) (st : JS) (b : S5) (r : List S5) (h : folS a b = false) : joinGo (some a) st (b :: r) = st := by
  rw [joinGo, if_neg]
  simp [joinOk, h]
theorem join_elder {e q : Int} {s t : List UInt8} (hk : cutOk e q s) (q' : Int) : joinS (cutS e q s ++ cutS (e - 1) q' t) = ⟨[⟨q, q + pieceN s, s⟩], q + pieceN s, s, -1⟩ := by
  rw [joinS_cut hk]
  obtain ⟨r, hr⟩ := cutS_cons (e - 1) q' t
  rw [hr]
  exact join_stop _ _ _ _ (decide_eq_false fun h => by rcases h.2 with h | h <;> simp only [slotI] at h <;> omega)
theorem join_gap {e q : Int} {s t : List UInt8} (hk : cutOk e q s) (q' : Int) (hq : q' ≠ q + pieceN s) : joinS (cutS e q s ++ cutS e q' t) = ⟨[⟨q, q + pieceN s, s⟩], q + pieceN s, s, -1⟩ := by
  have hN := pieceN_pos s
  rw [joinS_cut hk]
  obtain ⟨r, hr⟩ := cutS_cons e q' t
  rw [hr]
  exact join_stop _ _ _ _ (decide_eq_false fun h => by have := h.1; simp only [slotI] at this; omega)
end Go.Proofs.Ytiadbijholnbjaa
