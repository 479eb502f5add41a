/- Plain laws: what a record was cut into is joined to the record. -/
import Derived.Test.YtmnoldikimcafaaMSlH
namespace Go.Proofs.Ytmnoldikimcafaa
set_option maxRecDepth 100000
open Go.RowKit Go.Amb
/-- A record's slot i. -/
def slotI (e q : Int) (s : List UInt8) (i : Nat) : S5 := ⟨e, q + i, decide (i = 0), decide (i + 1 = pieceN s), pieceB s i⟩
theorem cutS_eq (e q : Int) (s : List UInt8) : cutS e q s = (List.range' 0 (pieceN s)).map (slotI e q s) := by
  unfold cutS slotI; rw [List.range_eq_range']
theorem slotI_right {e q : Int} {s : List UInt8} (hk : cutOk e q s) {i : Nat} (hi : i < pieceN s) : rightS (slotI e q s i) = true := by
  obtain ⟨h1, h2, h3, h4⟩ := hk
  refine decide_eq_true ⟨h2, ⟨?_, ?_⟩, ?_⟩
  · simp only [slotI]; omega
  · simp only [slotI]; omega
  · simp only [slotI, pieceB, List.length_take]; omega
theorem take_piece (s : List UInt8) (k : Nat) : s.take (108 * k) ++ pieceB s k = s.take (108 * (k + 1)) := by
  unfold pieceB
  rw [show 108 * (k + 1) = 108 * k + 108 by omega, List.take_add]
theorem take_all (s : List UInt8) : s.take (108 * pieceN s) = s := List.take_of_length_le (by unfold pieceN; omega)
theorem join_from {e q : Int} {s : List UInt8} (hk : cutOk e q s) (out : List R3) (next : Int) (rest : List S5) : ∀ (m k : Nat), 1 ≤ k → 1 ≤ m → k + m = pieceN s →
    joinGo (some (slotI e q s (k - 1))) ⟨out, next, s.take (108 * k), q⟩ ((List.range' k m).map (slotI e q s) ++ rest) = joinGo (some (slotI e q s (pieceN s - 1))) ⟨out ++ [⟨q, q + pieceN s, s⟩], q + pieceN s, s, -1⟩ rest := by
  intro m
  induction m with
  | zero => intro k _ h; omega
  | succ m ih =>
    intro k h1 _ hN
    rw [List.range'_succ, List.map_cons, List.cons_append, joinGo]
    have hok : joinOk (some (slotI e q s (k - 1))) q (slotI e q s k) = true := by
      have hr := slotI_right hk (i := k) (by omega)
      have hq := hk.2.2.1
      simp only [joinOk, hr, Bool.true_and, Bool.and_eq_true, folS, decide_eq_true_eq, slotI, beq_iff_eq]
      refine ⟨⟨hr, by omega, .inl trivial⟩, ?_⟩
      rw [decide_eq_false (by omega : ¬ k = 0), decide_eq_false (by omega : ¬ q < 0)]
    rw [if_pos hok]
    have hf : (slotI e q s k).f = false := decide_eq_false (by omega)
    by_cases hm : m = 0
    · subst hm
      have hl : (slotI e q s k).l = true := decide_eq_true hN
      rw [show (List.range' (k + 1) 0).map (slotI e q s) ++ rest = rest from rfl]
      rw [show pieceN s - 1 = k by omega]
      unfold joinNext
      rw [hl, hf]
      simp only [if_true, Bool.false_eq_true, if_false]
      rw [show (slotI e q s k).d = pieceB s k from rfl, take_piece, hN, take_all]
      rw [show (slotI e q s k).q + 1 = q + (pieceN s : Int) by simp only [slotI]; omega]
    · have hl : (slotI e q s k).l = false := decide_eq_false (by omega)
      have := ih (k + 1) (by omega) (by omega) (by omega)
      rw [Nat.add_sub_cancel] at this
      rw [← this]
      unfold joinNext
      rw [hl, hf]
      simp only [Bool.false_eq_true, if_false]
      rw [show (slotI e q s k).d = pieceB s k from rfl, take_piece]
/-- A record's slots are joined to the record. -/
theorem join_cut {e q : Int} {s : List UInt8} (hk : cutOk e q s) (p : Option S5) (out : List R3) (next : Int) (da : List UInt8) (op : Int) (hop : op < 0) (hp : ∀ a, p = some a → folS a (slotI e q s 0) = true) (rest : List S5) :
    joinGo p ⟨out, next, da, op⟩ (cutS e q s ++ rest) = joinGo (some (slotI e q s (pieceN s - 1))) ⟨out ++ [⟨q, q + pieceN s, s⟩], q + pieceN s, s, -1⟩ rest := by
  have hN := pieceN_pos s
  obtain ⟨m, hm⟩ : ∃ m, pieceN s = m + 1 := ⟨pieceN s - 1, by omega⟩
  rw [cutS_eq, hm, List.range'_succ, List.map_cons, List.cons_append, joinGo]
  have hok : joinOk p op (slotI e q s 0) = true := by
    have hr := slotI_right hk (i := 0) (by omega)
    unfold joinOk
    rw [hr, show (slotI e q s 0).f = true from rfl, decide_eq_true hop]
    cases p with
    | none => rfl
    | some a => simp only [hp a rfl]; rfl
  rw [if_pos hok]
  have hd0 : pieceB s 0 = s.take (108 * 1) := by have := take_piece s 0; simpa using this
  by_cases hm0 : m = 0
  · subst hm0
    have hl : (slotI e q s 0).l = true := decide_eq_true (by omega)
    unfold joinNext
    rw [hl, show (slotI e q s 0).f = true from rfl]
    simp only [if_true, List.nil_append]
    rw [show (slotI e q s 0).d = pieceB s 0 from rfl, hd0]
    have ht := take_all s
    rw [hm] at ht
    rw [show (108 * 1 : Nat) = 108 * (0 + 1) from rfl, ht]
    rw [show (slotI e q s 0).q = q by simp [slotI]]
    rfl
  · have hl : (slotI e q s 0).l = false := decide_eq_false (by omega)
    have := join_from hk out next rest m 1 (Nat.le_refl _) (by omega) (by omega)
    rw [hm] at this
    rw [← this]
    unfold joinNext
    rw [hl, show (slotI e q s 0).f = true from rfl]
    simp only [if_true, Bool.false_eq_true, if_false, List.nil_append]
    rw [show (slotI e q s 0).d = pieceB s 0 from rfl, hd0, show (slotI e q s 0).q = q by simp [slotI]]
theorem cutS_cons (e q : Int) (s : List UInt8) : ∃ r, cutS e q s = slotI e q s 0 :: r := by
  have hN := pieceN_pos s
  obtain ⟨m, hm⟩ : ∃ m, pieceN s = m + 1 := ⟨pieceN s - 1, by omega⟩
  exact ⟨_, by rw [cutS_eq, hm, List.range'_succ, List.map_cons]⟩
theorem joinS_cut {e q : Int} {s : List UInt8} (hk : cutOk e q s) (rest : List S5) : joinS (cutS e q s ++ rest) = joinGo (some (slotI e q s (pieceN s - 1))) ⟨[⟨q, q + pieceN s, s⟩], q + pieceN s, s, -1⟩ rest := by
  obtain ⟨r, hr⟩ := cutS_cons e q s
  have := join_cut hk none [] q [] (-1) (by decide) (fun _ h => by cases h) rest
  rw [List.nil_append] at this
  rw [← this, hr, List.cons_append, joinS]
  rw [show (slotI e q s 0).q = q by simp [slotI]]
/-- What does not follow ends the joining. -/
theorem join_stop (a : S5) (st : JS) (b : S5) (r : List S5) (h : folS a b = false) : joinGo (some a) st (b :: r) = st := by
  rw [joinGo, if_neg]
  simp [joinOk, h]
theorem join_elder {e q : Int} {s t : List UInt8} (hk : cutOk e q s) (q' : Int) : joinS (cutS e q s ++ cutS (e - 1) q' t) = ⟨[⟨q, q + pieceN s, s⟩], q + pieceN s, s, -1⟩ := by
  rw [joinS_cut hk]
  obtain ⟨r, hr⟩ := cutS_cons (e - 1) q' t
  rw [hr]
  exact join_stop _ _ _ _ (decide_eq_false fun h => by rcases h.2 with h | h <;> simp only [slotI] at h <;> omega)
theorem join_gap {e q : Int} {s t : List UInt8} (hk : cutOk e q s) (q' : Int) (hq : q' ≠ q + pieceN s) : joinS (cutS e q s ++ cutS e q' t) = ⟨[⟨q, q + pieceN s, s⟩], q + pieceN s, s, -1⟩ := by
  have hN := pieceN_pos s
  rw [joinS_cut hk]
  obtain ⟨r, hr⟩ := cutS_cons e q' t
  rw [hr]
  exact join_stop _ _ _ _ (decide_eq_false fun h => by have := h.1; simp only [slotI] at this; omega)
end Go.Proofs.Ytmnoldikimcafaa

namespace Go.Proofs.Ytmnoldikimcafaa
set_option maxRecDepth 100000
open Go.RowKit Go.Amb
def cutAll (ep : Int) : Int → List (List UInt8) → List S5
  | _, [] => []
  | q, s :: r => cutS ep q s ++ cutAll ep (q + pieceN s) r
def sumN : List (List UInt8) → Nat
  | [] => 0
  | s :: r => pieceN s + sumN r
def recsL : Int → List (List UInt8) → List R3
  | _, [] => []
  | q, s :: r => ⟨q, q + pieceN s, s⟩ :: recsL (q + pieceN s) r
def wholeN : List (List UInt8) → Nat → Nat
  | [], _ => 0
  | s :: r, m => if pieceN s ≤ m then wholeN r (m - pieceN s) + 1 else 0
def okAll (ep : Int) : Int → List (List UInt8) → Prop
  | _, [] => True
  | q, s :: r => cutOk ep q s ∧ okAll ep (q + pieceN s) r
theorem sumN_append (a b : List (List UInt8)) : sumN (a ++ b) = sumN a + sumN b := by
  induction a with
  | nil => simp [sumN]
  | cons s r ih => simp only [List.cons_append, sumN, ih]; omega
theorem cutAll_append (ep : Int) : ∀ (a : List (List UInt8)) (q : Int) (b : List (List UInt8)), cutAll ep q (a ++ b) = cutAll ep q a ++ cutAll ep (q + sumN a) b := by
  intro a
  induction a with
  | nil => intro q b; simp [cutAll, sumN]
  | cons s r ih =>
    intro q b
    simp only [List.cons_append, cutAll, sumN, ih, List.append_assoc]
    rw [show q + (pieceN s : Int) + (sumN r : Int) = q + ((pieceN s + sumN r : Nat) : Int) by omega]
theorem okAll_append (ep : Int) : ∀ (a : List (List UInt8)) (q : Int) (b : List (List UInt8)), okAll ep q (a ++ b) ↔ okAll ep q a ∧ okAll ep (q + sumN a) b := by
  intro a
  induction a with
  | nil => intro q b; simp [okAll, sumN]
  | cons s r ih =>
    intro q b
    simp only [List.cons_append, okAll, sumN, ih, and_assoc]
    rw [show q + (pieceN s : Int) + (sumN r : Int) = q + ((pieceN s + sumN r : Nat) : Int) by omega]
theorem cutAll_length (ep : Int) : ∀ (a : List (List UInt8)) (q : Int), (cutAll ep q a).length = sumN a := by
  intro a
  induction a with
  | nil => intro q; rfl
  | cons s r ih => intro q; simp only [cutAll, sumN, List.length_append, ih, cutS_length]
theorem recsL_length : ∀ (a : List (List UInt8)) (q : Int), (recsL q a).length = a.length := by
  intro a
  induction a with
  | nil => intro q; rfl
  | cons s r ih => intro q; simp only [recsL, List.length_cons, ih]
theorem recsL_get : ∀ (a : List (List UInt8)) (q : Int) (i : Nat) (s : List UInt8), a[i]? = some s → (recsL q a)[i]? = some ⟨q + sumN (a.take i), q + sumN (a.take (i + 1)), s⟩ := by
  intro a
  induction a with
  | nil => intro q i s h; simp at h
  | cons x r ih =>
    intro q i s h
    cases i with
    | zero => simp at h; subst h; simp [recsL, sumN]
    | succ i =>
      have := ih (q + pieceN x) i s (by simpa using h)
      simp only [recsL, List.getElem?_cons_succ, this, List.take_succ_cons, sumN]
      congr 2
      · omega
      · omega
theorem whole_le : ∀ (a : List (List UInt8)) (m : Nat), wholeN a m ≤ a.length := by
  intro a
  induction a with
  | nil => intro m; exact Nat.le_refl _
  | cons s r ih =>
    intro m
    simp only [wholeN, List.length_cons]
    split
    · have := ih (m - pieceN s); omega
    · omega
theorem whole_iff : ∀ (a : List (List UInt8)) (m i : Nat), i < a.length → (sumN (a.take (i + 1)) ≤ m ↔ i < wholeN a m) := by
  intro a
  induction a with
  | nil => intro m i h; simp at h
  | cons s r ih =>
    intro m i h
    simp only [List.take_succ_cons, sumN, wholeN]
    cases i with
    | zero => simp only [List.take_zero, sumN]; split <;> omega
    | succ i =>
      split
      · rename_i hm
        have := ih (m - pieceN s) i (by simpa using h)
        omega
      · omega
theorem join_part_from {e q : Int} {s : List UInt8} (hk : cutOk e q s) (out : List R3) (next : Int) : ∀ (m k : Nat), 1 ≤ k → k + m < pieceN s →
    (joinGo (some (slotI e q s (k - 1))) ⟨out, next, s.take (108 * k), q⟩ ((List.range' k m).map (slotI e q s))).out = out ∧ (joinGo (some (slotI e q s (k - 1))) ⟨out, next, s.take (108 * k), q⟩ ((List.range' k m).map (slotI e q s))).next = next := by
  intro m
  induction m with
  | zero => intro k _ _; exact ⟨rfl, rfl⟩
  | succ m ih =>
    intro k h1 hN
    rw [List.range'_succ, List.map_cons, joinGo]
    have hok : joinOk (some (slotI e q s (k - 1))) q (slotI e q s k) = true := by
      have hr := slotI_right hk (i := k) (by omega)
      have hq := hk.2.2.1
      simp only [joinOk, hr, Bool.true_and, Bool.and_eq_true, folS, decide_eq_true_eq, slotI, beq_iff_eq]
      refine ⟨⟨hr, by omega, .inl trivial⟩, ?_⟩
      rw [decide_eq_false (by omega : ¬ k = 0), decide_eq_false (by omega : ¬ q < 0)]
    rw [if_pos hok]
    have hf : (slotI e q s k).f = false := decide_eq_false (by omega)
    have hl : (slotI e q s k).l = false := decide_eq_false (by omega)
    have := ih (k + 1) (by omega) (by omega)
    rw [Nat.add_sub_cancel] at this
    have hj : joinNext ⟨out, next, s.take (108 * k), q⟩ (slotI e q s k) = ⟨out, next, s.take (108 * (k + 1)), q⟩ := by
      unfold joinNext
      rw [hl, hf]
      simp only [Bool.false_eq_true, if_false]
      rw [show (slotI e q s k).d = pieceB s k from rfl, take_piece]
    rw [hj]
    exact this
theorem join_part {e q : Int} {s : List UInt8} (hk : cutOk e q s) (p : Option S5) (out : List R3) (next : Int) (da : List UInt8) (op : Int) (hop : op < 0) (hp : ∀ a, p = some a → folS a (slotI e q s 0) = true) (k : Nat) (hkN : k < pieceN s) :
    (joinGo p ⟨out, next, da, op⟩ ((cutS e q s).take k)).out = out ∧ (joinGo p ⟨out, next, da, op⟩ ((cutS e q s).take k)).next = next := by
  have ht : (cutS e q s).take k = (List.range' 0 k).map (slotI e q s) := by
    rw [cutS_eq, ← List.map_take]
    congr 1
    rw [show pieceN s = k + (pieceN s - k) by omega, ← List.range'_append_1, List.take_left' (by simp)]
  rw [ht]
  cases k with
  | zero => cases p <;> exact ⟨rfl, rfl⟩
  | succ k =>
    rw [List.range'_succ, List.map_cons, joinGo]
    have hok : joinOk p op (slotI e q s 0) = true := by
      have hr := slotI_right hk (i := 0) (by omega)
      unfold joinOk
      rw [hr, show (slotI e q s 0).f = true from rfl, decide_eq_true hop]
      cases p with
      | none => rfl
      | some a => simp only [hp a rfl]; rfl
    rw [if_pos hok]
    have hd0 : pieceB s 0 = s.take (108 * 1) := by have := take_piece s 0; simpa using this
    have hl : (slotI e q s 0).l = false := decide_eq_false (by omega)
    have hj : joinNext ⟨out, next, da, op⟩ (slotI e q s 0) = ⟨out, next, s.take (108 * 1), q⟩ := by
      unfold joinNext
      rw [hl, show (slotI e q s 0).f = true from rfl]
      simp only [if_true, Bool.false_eq_true, if_false, List.nil_append]
      rw [show (slotI e q s 0).d = pieceB s 0 from rfl, hd0, show (slotI e q s 0).q = q by simp [slotI]]
    rw [hj]
    exact join_part_from hk out next k 1 (Nat.le_refl _) (by omega)
theorem join_all (ep : Int) : ∀ (a : List (List UInt8)) (q : Int) (p : Option S5) (out : List R3) (next : Int) (da : List UInt8) (op : Int) (m : Nat), okAll ep q a → op < 0 → (∀ x, p = some x → x.q + 1 = q ∧ x.e = ep) →
    (joinGo p ⟨out, next, da, op⟩ ((cutAll ep q a).take m)).out = out ++ (recsL q a).take (wholeN a m) ∧
    (joinGo p ⟨out, next, da, op⟩ ((cutAll ep q a).take m)).next = if wholeN a m = 0 then next else q + sumN (a.take (wholeN a m)) := by
  intro a
  induction a with
  | nil => intro q p out next da op m _ _ _; cases p <;> simp [cutAll, joinGo, recsL, wholeN]
  | cons s r ih =>
    intro q p out next da op m hok hop hp
    have hN := pieceN_pos s
    have hfol : ∀ x, p = some x → folS x (slotI ep q s 0) = true := fun x hx => by
      have := hp x hx
      refine decide_eq_true ⟨?_, .inl ?_⟩
      · simp only [slotI]; omega
      · simp only [slotI]; exact this.2.symm
    simp only [cutAll, recsL]
    by_cases hm : pieceN s ≤ m
    · have hw : wholeN (s :: r) m = wholeN r (m - pieceN s) + 1 := by rw [wholeN, if_pos hm]
      rw [hw, List.take_append, List.take_of_length_le (by rw [cutS_length]; exact hm), cutS_length, join_cut hok.1 p out next da op hop hfol]
      have := ih (q + pieceN s) (some (slotI ep q s (pieceN s - 1))) (out ++ [⟨q, q + pieceN s, s⟩]) (q + pieceN s) s (-1) (m - pieceN s) hok.2 (by decide) (fun x hx => by injection hx with hx; subst hx; refine ⟨?_, rfl⟩; simp only [slotI]; omega)
      refine ⟨?_, ?_⟩
      · rw [this.1, List.take_succ_cons, List.append_assoc]; rfl
      · have e1 : ¬ wholeN r (m - pieceN s) + 1 = 0 := by omega
        rw [if_neg e1, this.2, List.take_succ_cons, sumN]
        by_cases h0 : wholeN r (m - pieceN s) = 0
        · rw [if_pos h0, h0]; simp [sumN]
        · rw [if_neg h0]; omega
    · have hw : wholeN (s :: r) m = 0 := by rw [wholeN, if_neg hm]
      rw [hw, List.take_append_of_le_length (by rw [cutS_length]; omega)]
      have := join_part hok.1 p out next da op hop hfol m (by omega)
      simpa using this
theorem joinS_all {ep q : Int} {a : List (List UInt8)} (hok : okAll ep q a) (m : Nat) :
    (joinS ((cutAll ep q a).take m)).out = (recsL q a).take (wholeN a m) ∧ (joinS ((cutAll ep q a).take m)).next = if m = 0 ∨ a = [] then 0 else q + sumN (a.take (wholeN a m)) := by
  cases a with
  | nil => simp [cutAll, joinS, recsL, wholeN]
  | cons s r =>
    by_cases hm : m = 0
    · subst hm
      have hN := pieceN_pos s
      have : wholeN (s :: r) 0 = 0 := by rw [wholeN, if_neg (by omega)]
      rw [this]; simp [joinS]
    · obtain ⟨x, hx⟩ := cutS_cons ep q s
      have hcons : ∃ y, (cutAll ep q (s :: r)).take m = slotI ep q s 0 :: y := by
        obtain ⟨m', rfl⟩ : ∃ m', m = m' + 1 := ⟨m - 1, by omega⟩
        simp only [cutAll, hx, List.cons_append, List.take_succ_cons]
        exact ⟨_, rfl⟩
      obtain ⟨y, hy⟩ := hcons
      have := join_all ep (s :: r) q none [] q [] (-1) m hok (by decide) (fun _ h => by cases h)
      rw [hy] at this ⊢
      rw [List.nil_append] at this
      have hq0 : (slotI ep q s 0).q = q := by simp [slotI]
      refine ⟨?_, ?_⟩
      · rw [joinS, hq0]; exact this.1
      · have e2 : ¬ (m = 0 ∨ s :: r = []) := by intro h; rcases h with h | h; exact hm h; cases h
        rw [joinS, hq0, if_neg e2, this.2]
        by_cases h0 : wholeN (s :: r) m = 0
        · rw [if_pos h0, h0]; simp [sumN]
        · rw [if_neg h0]
end Go.Proofs.Ytmnoldikimcafaa
