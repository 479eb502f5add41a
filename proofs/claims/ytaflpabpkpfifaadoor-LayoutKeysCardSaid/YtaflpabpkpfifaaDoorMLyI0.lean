/- The walk over layout.Parse (printed by gen/mkparse.py). -/
import Derived.Test.YtaflpabpkpfifaaDoorMLyE
import Derived.Test.YtaflpabpkpfifaaDoorMLibE
namespace Go.Proofs.YtaflpabpkpfifaaDoor
set_option maxRecDepth 100000
open Go.RowKit Go.Amb
set_option linter.unusedVariables false
attribute [local go_sem ↓] Go.wp_at_zero Go.wp_at_succ

theorem kindOf_one (c : UInt8) : kindOf [c] = (lettersL.findIdx? (· == c)).elim 0 (fun i => (i : Int) + 1) := rfl
def kyFrom (k : Int) (b : Str) (r : List Part) : Ky := if k = 1 then ⟨1, b, [], r.map (·.n)⟩ else match r with | [] => ⟨k, b, [], []⟩ | u :: r => ⟨k, b, u.s, r.map (·.n)⟩
theorem kyOf_cons (p q : Part) (r : List Part) : kyOf (p :: q :: r) = kyFrom (kindOf p.s) q.s r := rfl
theorem kind_ix (c : UInt8) : Lib.indexByte lettersL c + 1 = kindOf [c] := by
  rw [indexByte_find, kindOf_one]
  cases lettersL.findIdx? (· == c) with
  | none => rfl
  | some i => rfl
theorem size_key : Hid ((Tryd.prog.info? 25).map (·.size) = some 4) := Lib.hid (by kernel_rfl)
theorem info_int21 : (Tryd.prog.info? 3).map (fun i => (i.zero, i.size, i.bytes)) = some (some (.int .i64 0), 1, 8) := by kernel_rfl
/-- A key, and an error, are answered. -/
def KeyRet (y : Ky) (e0 : Int) (w : World) (e : Ending) (w' : World) : Prop := ∃ nv, e = .returned (.tuple #[kyV y nv, .int .i64 e0]) ∧ Ints w' nv y.ns ∧ Upd Non w w'
theorem dec_ok (s : Str) : ∀ p ∈ (decR s).1, numOk p ∧ p.s.length ≤ 128 := by
  unfold decR
  by_cases h : 128 < s.length
  · rw [if_pos h]; intro p hp; cases hp
  · rw [if_neg h]
    cases hd : decL s with
    | none => intro p hp; cases hp
    | some m =>
      intro p hp
      have := (decL_back s.length s m (Nat.le_refl _) hd).2 p hp
      exact ⟨this.2.1, by omega⟩
theorem encB_many (l : List Part) : l.length ≤ (encB l).length := by
  induction l with
  | nil => simp
  | cons p l ih =>
    obtain ⟨b, r, h, _⟩ := partB_head p
    rw [encB_cons, List.length_append, h, List.length_cons, List.length_cons]
    omega
theorem dec_few (s : Str) : (decR s).1.length ≤ 128 := by
  unfold decR
  by_cases h : 128 < s.length
  · rw [if_pos h]; simp
  · rw [if_neg h]
    cases hd : decL s with
    | none => simp
    | some m =>
      have := (decL_back s.length s m (Nat.le_refl _) hd).1
      have h2 := encB_many m
      rw [this] at h2
      show m.length ≤ 128
      omega
theorem parseR_no {s : Str} (h : ¬ ((decR s).2 = 0 ∧ 2 ≤ (decR s).1.length ∧ keyR (kyOf (decR s).1) = (s, 0))) : parseR s = (Ky.none, 4) := by unfold parseR; rw [if_neg h]
theorem kind_letter {s : Str} (h : kindOf s ≠ 0) : ∃ c, s = [c] := by
  match s with
  | [] => exact absurd rfl h
  | [c] => exact ⟨c, rfl⟩
  | a :: b :: r => exact absurd rfl h
theorem kyOf_k (p q : Part) (r : List Part) : (kyOf (p :: q :: r)).k = kindOf p.s := by
  rw [kyOf_cons]
  unfold kyFrom
  by_cases h : kindOf p.s = 1
  · simp [h]
  · rw [if_neg h]; cases r <;> rfl
theorem key_kind0 {x : Ky} {s : Str} (h : keyR x = (s, 0)) : x.k ≠ 0 := by
  have h2 := keyR_fine (x := x) (by rw [h])
  have := numbersB_kind h2.1
  omega

theorem size_part (w : World) : (Go.sizeOf (Tryd.prog.elem 74)).run Tryd.prog w = .ok 3 w := by
  have h : Tryd.prog.elem 74 = 81 := by kernel_rfl
  obtain ⟨i, hi, hz, hs, hb⟩ := info_parts info_partM
  rw [h]
  simp [Go.sizeOf, typeInfo, hi, hs]
theorem slice_parts (g off m cc l : Nat) (li : Int) (hli : li = l) (hc : m + l ≤ cc) : ∃ A : Option Addr, (∀ w, (Instr.slice 74 (.slice (some ⟨g, off, none⟩) (m + l) cc) (some (.int .i64 li)) none none).run Tryd.prog w = .ok (.slice A m (cc - l)) w) ∧ (0 < m → A = some ⟨g, off + l * 3, none⟩) := by
  subst hli
  refine ⟨if cc = l then some ⟨g, off, none⟩ else some ⟨g, off + l * 3, none⟩, fun w => ?_, fun h => by rw [if_neg (by omega)]⟩
  rw [run_slice_l w 74 (some ⟨g, off, none⟩) (m + l) cc (by rw [show Tryd.prog.elem 74 = 81 by kernel_rfl]; exact Tryd.underlying74) .i64 (l : Int) (by omega) (by omega), size_part]
  simp [sliced, Result.andThen, Addr.add_lit]
abbrev OwnI (w : World) (base : Nat) (v : Value) (l : List Int) : Prop := w.ownsRow base 3 1 v l.length (ics l)
theorem own_ints {w : World} {base N : Nat} {v : Value} {l : List Int} {n : Int} (h : w.ownsRow base 3 1 v N (ics l ++ [.int .i64 n])) (hN : N = l.length + 1) : OwnI w base v (l ++ [n]) := by
  subst hN
  unfold OwnI
  rw [ics_append, List.length_append]
  exact h
theorem take_n (l : List Part) (j : Nat) (h : j < l.length) : (l.map (·.n)).take (j + 1) = (l.map (·.n)).take j ++ [l[j].n] := by rw [take_snoc (l.map (·.n)) j (by simpa using h)]; simp
theorem kind_bounds (s : Str) : 0 ≤ kindOf s ∧ kindOf s ≤ 6 := by
  match s with
  | [] => exact ⟨by decide, by decide⟩
  | a :: b :: r => exact ⟨Int.le_refl 0, by show (0 : Int) ≤ 6; decide⟩
  | [c] =>
    rw [kindOf_one]
    cases hf : lettersL.findIdx? (· == c) with
    | none => exact ⟨Int.le_refl 0, by show (0 : Int) ≤ 6; decide⟩
    | some i =>
      have h2 : i < lettersL.length := (List.findIdx?_eq_some_iff_getElem.1 hf).1
      have h3 : i < 6 := h2
      show 0 ≤ (i : Int) + 1 ∧ (i : Int) + 1 ≤ 6
      omega
end Go.Proofs.YtaflpabpkpfifaaDoor
