/- The reference's Cut, SameSlots. -/
import Derived.Test.YtmnoldikimcafaaMSlC
import Derived.Deep.QuietTactic
import Derived.Laws.StructEq
namespace Go.Proofs.Ytmnoldikimcafaa
open Go.RowKit Go.Amb Go.Shelf
set_option linter.unusedVariables false
set_option linter.unusedSimpArgs false
def cutR (e q : Int) (s : List UInt8) (k : Nat) : List S5 := (List.range k).map fun (i : Nat) => ⟨e, q + i, decide (i = 0), decide (i + 1 = pieceN s), pieceB s i⟩
theorem cutR_succ (e q : Int) (s : List UInt8) (k : Nat) : cutR e q s (k + 1) = cutR e q s k ++ [⟨e, q + k, decide (k = 0), decide (k + 1 = pieceN s), pieceB s k⟩] := by simp [cutR, List.range_succ]
theorem cutR_length (e q : Int) (s : List UInt8) (k : Nat) : (cutR e q s k).length = k := by simp [cutR]
end Go.Proofs.Ytmnoldikimcafaa

namespace Go.Amb
open Go.RowKit
theorem slots_at {w : World} {v : Value} {l : List S5} (h : SlotsAt w v l) : ∃ a c, v = .slice a l.length c ∧ l.length ≤ c ∧ c ≤ maxLen ∧ ∀ k, k < l.length → ∃ g off p, a = some ⟨g, off, none⟩ ∧ l[k]? = some p ∧ w.cell? ⟨g, off + k * 5, none⟩ = some (.int .i64 p.e) ∧
    w.cell? ⟨g, off + k * 5 + 1, none⟩ = some (.int .i64 p.q) ∧ w.cell? ⟨g, off + k * 5 + 2, none⟩ = some (.bool p.f) ∧ w.cell? ⟨g, off + k * 5 + 3, none⟩ = some (.bool p.l) ∧ w.cell? ⟨g, off + k * 5 + 4, none⟩ = some (.string ⟨p.d.toArray⟩) := by
  obtain ⟨hl, a, c, rfl, h1, h2, h3⟩ := h
  refine ⟨a, c, rfl, h1, h2, fun k hk => ?_⟩
  rcases h3 with h3 | ⟨g, off, rfl, hc⟩
  · omega
  · obtain ⟨g0, g1, g2, g3, g4⟩ := sc_get l k hk
    exact ⟨g, off, l[k], rfl, List.getElem?_eq_getElem hk, hc _ _ g0, by rw [Nat.add_assoc]; exact hc _ _ g1, by rw [Nat.add_assoc]; exact hc _ _ g2, by rw [Nat.add_assoc]; exact hc _ _ g3, by rw [Nat.add_assoc]; exact hc _ _ g4⟩
theorem same_step {α : Type} {la lb : List α} {i : Nat} {p q : α} (hp : la[i]? = some p) (hq : lb[i]? = some q) (h : la.drop i = lb.drop i ↔ la = lb) : (p = q → (la.drop (i + 1) = lb.drop (i + 1) ↔ la = lb)) ∧ (p ≠ q → ¬ la = lb) := by
  obtain ⟨h1, rfl⟩ := List.getElem?_eq_some_iff.1 hp
  obtain ⟨h2, rfl⟩ := List.getElem?_eq_some_iff.1 hq
  rw [List.drop_eq_getElem_cons h1, List.drop_eq_getElem_cons h2] at h
  refine ⟨fun e => ?_, fun e hl => ?_⟩
  · rw [e, ← List.drop_eq_getElem_cons h2] at h
    rw [← h]
    conv => rhs; rw [List.drop_eq_getElem_cons h2]
    exact ⟨fun h => by rw [h], fun h => by injection h⟩
  · exact e (by have := h.2 hl; injection this)
end Go.Amb
namespace Go.Proofs.Ytmnoldikimcafaa
set_option maxRecDepth 100000
open Go.RowKit Go.Amb Go.Shelf
set_option linter.unusedVariables false
set_option linter.unusedSimpArgs false
theorem fields_slot : (Try.prog.fieldsOf 56) = #[⟨ "Epoch", 3, 0, false, "", "", 0⟩, ⟨ "Seq", 3, 1, false, "", "", 8⟩, ⟨ "First", 4, 2, false, "", "", 16⟩, ⟨ "Last", 4, 3, false, "", "", 17⟩, ⟨ "Data", 9, 4, false, "", "", 24⟩] := by kernel_rfl
theorem slot_guard (op : BinOp) (x y : Operand) (xs ys : Array Value) (w : World) : (eqGuard op 56 x y (.agg xs) (.agg ys)).run Try.prog w = .ok () w := run_eqGuard_agg w op 56 x y xs ys (by kernel_rfl)
theorem beq_bytes (a b : List UInt8) : (ByteArray.toList ⟨a.toArray⟩ == ByteArray.toList ⟨b.toArray⟩) = decide (a = b) := by
  rw [← beq_toListBytes, Bool.eq_iff_iff]
  show (a.toArray == b.toArray) = true ↔ decide (a = b) = true
  simp
theorem slot_equal (p q : S5) (w : World) : (Op.equalIn 10000 56 (.agg #[.int .i64 p.e, .int .i64 p.q, .bool p.f, .bool p.l, .string ⟨p.d.toArray⟩]) (.agg #[.int .i64 q.e, .int .i64 q.q, .bool q.f, .bool q.l, .string ⟨q.d.toArray⟩])).run Try.prog w = .ok (decide (p = q)) w := by
  rw [run_equalIn_struct w 9999 56 _ _ (by kernel_rfl) (by kernel_rfl), fields_slot]
  obtain ⟨p1, p2, p3, p4, p5⟩ := p
  obtain ⟨q1, q2, q3, q4, q5⟩ := q
  have e1 := fun a b => run_equalIn_int (P := Try.prog) w 9998 3 .i64 .i64 a b Try.underlying3
  have e2 := fun a b => run_equalIn_bool' (P := Try.prog) w 9998 4 a b Try.underlying4
  have e3 := fun (a b : List UInt8) => run_equalIn_string (P := Try.prog) w 9998 9 (⟨a.toArray⟩) (⟨b.toArray⟩) Try.underlying9
  simp only [beq_bytes] at e3
  simp only [S5.mk.injEq]
  by_cases h1 : p1 = q1
  · by_cases h2 : p2 = q2
    · by_cases h3 : p3 = q3
      · by_cases h4 : p4 = q4
        · by_cases h5 : p5 = q5
          · subst h1 h2 h3 h4 h5; simp [Op.eqFields, go_sem, e1, e2, e3]
          · subst h1 h2 h3 h4; simp [Op.eqFields, go_sem, e1, e2, e3, h5]
        · subst h1 h2 h3; simp [Op.eqFields, go_sem, e1, e2, e3, h4]
      · subst h1 h2; simp [Op.eqFields, go_sem, e1, e2, e3, h3]
    · subst h1; simp [Op.eqFields, go_sem, e1, e2, e3, h2]
  · simp [Op.eqFields, go_sem, e1, e2, e3, h1]
theorem slot_neq (p q : S5) (w : World) : (binOp .neq 56 (.agg #[.int .i64 p.e, .int .i64 p.q, .bool p.f, .bool p.l, .string ⟨p.d.toArray⟩]) (.agg #[.int .i64 q.e, .int .i64 q.q, .bool q.f, .bool q.l, .string ⟨q.d.toArray⟩])).run Try.prog w = .ok (.bool (!decide (p = q))) w := by
  rw [run_neq_struct, slot_equal]; rfl
end Go.Proofs.Ytmnoldikimcafaa

namespace Go.Amb
open Go.RowKit
/-- Is a slot right? -/
def rightS (s : S5) : Bool := decide ((0 ≤ s.e ∧ s.e ≤ 2147483647) ∧ (0 ≤ s.q ∧ s.q ≤ 1152921504606846976) ∧ s.d.length ≤ 108)
/-- Does b follow a? -/
def folS (a b : S5) : Bool := decide (b.q = a.q + 1 ∧ (b.e = a.e ∨ b.f = true ∧ a.e < b.e))
abbrev S5.v (x : S5) : Value := .agg #[.int .i64 x.e, .int .i64 x.q, .bool x.f, .bool x.l, .string ⟨x.d.toArray⟩]
end Go.Amb
namespace Go.Proofs.Ytmnoldikimcafaa
set_option maxRecDepth 100000
open Go.RowKit Go.Amb Go.Shelf
set_option linter.unusedVariables false
theorem lCheck (x : S5) (w : World) : Calls Try.prog 42 #[x.v] w (Ret (.int .i64 (if rightS x then 0 else 2)) w) := by
  obtain ⟨e, q, f, l, d⟩ := x
  by_cases hR : rightS ⟨e, q, f, l, d⟩ = true
  · rw [if_pos hR]
    obtain ⟨⟨h1, h2⟩, ⟨h3, h4⟩, h5⟩ := of_decide_eq_true hR
    simp only at h1 h2 h3 h4 h5
    have g1 : ¬ e < 0 := by omega
    have g2 : ¬ 2147483647 < e := by omega
    have g3 : ¬ q < 0 := by omega
    have g4 : ¬ 1152921504606846976 < q := by omega
    have g5 : ¬ (108 : Int) < (d.length : Int) := by omega
    clear hR h1 h2 h3 h4 h5
    go_enter Try.func42, Try.ntmps42
    go_wp2_with fail
    go_ret
    exact ⟨rfl, (Upd.refl _ _).then_alloc _⟩
  · rw [if_neg hR]
    have hR' : ¬ ((0 ≤ e ∧ e ≤ 2147483647) ∧ (0 ≤ q ∧ q ≤ 1152921504606846976) ∧ d.length ≤ 108) := fun h => hR (decide_eq_true h)
    clear hR
    by_cases g1 : e < 0
    · clear hR'
      go_enter Try.func42, Try.ntmps42
      go_wp2_with fail
      go_ret
      exact ⟨rfl, (Upd.refl _ _).then_alloc _⟩
    by_cases g2 : 2147483647 < e
    · clear hR'
      go_enter Try.func42, Try.ntmps42
      go_wp2_with fail
      go_ret
      exact ⟨rfl, (Upd.refl _ _).then_alloc _⟩
    by_cases g3 : q < 0
    · clear hR'
      go_enter Try.func42, Try.ntmps42
      go_wp2_with fail
      go_ret
      exact ⟨rfl, (Upd.refl _ _).then_alloc _⟩
    by_cases g4 : 1152921504606846976 < q
    · clear hR'
      go_enter Try.func42, Try.ntmps42
      go_wp2_with fail
      go_ret
      exact ⟨rfl, (Upd.refl _ _).then_alloc _⟩
    have g5 : (108 : Int) < (d.length : Int) := by omega
    clear hR'
    go_enter Try.func42, Try.ntmps42
    go_wp2_with fail
    go_ret
    exact ⟨rfl, (Upd.refl _ _).then_alloc _⟩
theorem lFollows (a b : S5) (w : World) (ha : rightS a = true) : Calls Try.prog 43 #[a.v, b.v] w (Ret (.bool (folS a b)) w) := by
  obtain ⟨e, q, f, l, d⟩ := a
  obtain ⟨⟨h1, h2⟩, ⟨h3, h4⟩, h5⟩ := of_decide_eq_true ha
  simp only at h1 h2 h3 h4 h5
  have hw : IntKind.i64.wrap (q + 1) = q + 1 := IntWalk.i64_in _ ⟨by omega, by omega⟩
  clear ha h1 h2 h5
  obtain ⟨e', q', f', l', d'⟩ := b
  by_cases g1 : q' = q + 1
  · by_cases g2 : e' = e
    · rw [show folS ⟨e, q, f, l, d⟩ ⟨e', q', f', l', d'⟩ = true by simp [folS, g1, g2]]
      subst g1 g2
      go_enter Try.func43, Try.ntmps43
      go_wp2_with fail
      go_ret
      exact ⟨rfl, ((Upd.refl _ _).then_alloc _).then_alloc _⟩
    · cases f' with
      | false =>
        rw [show folS ⟨e, q, f, l, d⟩ ⟨e', q', false, l', d'⟩ = false by simp [folS, g1, g2]]
        have g2' : (e' == e) = false := by simpa using g2
        clear g2
        subst g1
        go_enter Try.func43, Try.ntmps43
        go_wp2_with fail
        go_ret
        exact ⟨rfl, ((Upd.refl _ _).then_alloc _).then_alloc _⟩
      | true =>
        have g2' : (e' == e) = false := by simpa using g2
        by_cases g3 : e < e'
        · rw [show folS ⟨e, q, f, l, d⟩ ⟨e', q', true, l', d'⟩ = true by simp [folS, g1, g3]]
          clear g2
          subst g1
          go_enter Try.func43, Try.ntmps43
          go_wp2_with fail
          go_ret
          exact ⟨rfl, ((Upd.refl _ _).then_alloc _).then_alloc _⟩
        · rw [show folS ⟨e, q, f, l, d⟩ ⟨e', q', true, l', d'⟩ = false by simp [folS, g1, g2, g3]]
          clear g2
          subst g1
          go_enter Try.func43, Try.ntmps43
          go_wp2_with fail
          go_ret
          exact ⟨rfl, ((Upd.refl _ _).then_alloc _).then_alloc _⟩
  · rw [show folS ⟨e, q, f, l, d⟩ ⟨e', q', f', l', d'⟩ = false by simp [folS, g1]]
    have g1' : (q' == q + 1) = false := by simpa using g1
    clear g1
    go_enter Try.func43, Try.ntmps43
    go_wp2_with fail
    go_ret
    exact ⟨rfl, ((Upd.refl _ _).then_alloc _).then_alloc _⟩
end Go.Proofs.Ytmnoldikimcafaa
