/- The walks over package layout: how many numbers, a key's numbers; the reference's. -/
import Derived.Test.YtaflpabpkpfifaaDoorMLsP
import Derived.Handy
namespace Go.Proofs.YtaflpabpkpfifaaDoor
set_option maxRecDepth 100000
open Go.RowKit Go.Amb
set_option linter.unusedVariables false
attribute [local go_sem ↓] Go.wp_at_zero Go.wp_at_succ

def ics (l : List Int) : List Value := l.map (Value.int .i64)
theorem ics_one (l : List Int) : ∀ u ∈ ics l, u.oneCell' = true := by
  intro u hu
  obtain ⟨_, _, rfl⟩ := List.mem_map.1 hu
  rfl
theorem ics_append (a b : List Int) : ics (a ++ b) = ics a ++ ics b := by simp [ics]
theorem ics_length (a : List Int) : (ics a).length = a.length := by simp [ics]
/-- A slice of whole numbers. -/
abbrev Ints (w : World) (v : Value) (l : List Int) : Prop := Has w 1 v l.length (ics l)
theorem ints_at {w : World} {v : Value} {l : List Int} (h : Ints w v l) : ∃ a c, v = .slice a l.length c ∧ l.length ≤ c ∧ c ≤ maxLen ∧ ∀ k (hk : k < l.length), ∃ g off, a = some ⟨g, off, none⟩ ∧ w.cell? ⟨g, off + k, none⟩ = some (.int .i64 l[k]) := by
  obtain ⟨hl, a, c, rfl, h1, h2, h3⟩ := h
  refine ⟨a, c, rfl, h1, h2, fun k hk => ?_⟩
  rcases h3 with h3 | ⟨g, off, rfl, hc⟩
  · omega
  · exact ⟨g, off, rfl, hc k _ (by simp [ics, hk])⟩
/-- A key as a value: its numbers are a slice. -/
def kyV (x : Ky) (nv : Value) : Value := .agg #[.int .i64 x.k, txtV x.b, txtV x.o, nv]
def kyCells (x : Ky) (nv : Value) : Array Value := #[.int .i64 x.k, txtV x.b, txtV x.o, nv]

theorem kind_ne {k m : Int} (h : k ≠ m) : (k == m) = false := by simp [h]

theorem kind_bne {k m : Int} (h : k ≠ m) : (k != m) = true := by simp [h]
theorem yNums (k : Int) (w : World) : Calls Tryd.prog 29 #[.int .i64 k] w (Ret (.int .i64 (numsK k)) w) := by
  by_cases hk : k = 1 ∨ k = 2 ∨ k = 3 ∨ k = 4 ∨ k = 5 ∨ k = 6
  · rcases hk with rfl | rfl | rfl | rfl | rfl | rfl
    all_goals
      go_enter Tryd.func29, Tryd.ntmps29
      go_wp2_with fail
      go_ret
      exact ⟨rfl, Upd.refl _ _⟩
  · have h := numsK_no (k := k) (by omega)
    rw [h]
    have h1 := kind_ne (k := k) (m := 1) (by omega)
    have h2 := kind_ne (k := k) (m := 2) (by omega)
    have h3 := kind_ne (k := k) (m := 3) (by omega)
    have h4 := kind_ne (k := k) (m := 4) (by omega)
    have h5 := kind_ne (k := k) (m := 5) (by omega)
    have h6 := kind_ne (k := k) (m := 6) (by omega)
    clear h hk
    go_enter Tryd.func29, Tryd.ntmps29
    go_wp2_with fail
    go_ret
    exact ⟨rfl, Upd.refl _ _⟩

theorem yText (s : Str) (w : World) : Calls Tryd.prog 56 #[txtV s] w (Ret (pV (txtP s)) w) := by
  unfold txtV
  go_enter Tryd.func56, Tryd.ntmps56
  go_wp2_with fail
  go_returns
  exact ⟨rfl, (Upd.refl _ _).then_alloc _⟩
theorem yNumber (k n : Int) (w : World) : Calls Tryd.prog 57 #[.int .i64 k, .int .i64 n] w (Ret (pV (numPt k n)) w) := by
  by_cases h : k = 2
  · subst h
    go_enter Tryd.func57, Tryd.ntmps57
    go_wp2_with fail
    go_returns
    exact ⟨rfl, (Upd.refl _ _).then_alloc _⟩
  · have h1 := kind_ne h
    have hv : pV (numPt k n) = .agg #[.int .i64 2, .int .i64 n, .string ⟨#[]⟩] := by unfold numPt; rw [if_neg h]
    rw [hv]
    clear hv h
    go_enter Tryd.func57, Tryd.ntmps57
    go_wp2_with fail
    go_returns
    exact ⟨rfl, (Upd.refl _ _).then_alloc _⟩

theorem cells4 {w : World} {b : Nat} {c0 c1 c2 c3 : Value} {t : TypeId} (h : w.heap[b]? = some (.cells #[c0, c1, c2, c3] t (0, 0))) : w.cell? ⟨b, 0, none⟩ = some c0 ∧ w.cell? ⟨b, 1, none⟩ = some c1 ∧ w.cell? ⟨b, 2, none⟩ = some c2 ∧ w.cell? ⟨b, 3, none⟩ = some c3 :=
  ⟨(cells_of h).1 0, (cells_of h).1 1, (cells_of h).1 2, (cells_of h).1 3⟩

theorem q21Nums (k : Int) (w : World) : Calls Tryd.prog 33 #[.int .i64 k] w (Ret (.int .i64 (numsK k)) w) := by
  by_cases hk : k = 1 ∨ k = 2 ∨ k = 3 ∨ k = 4 ∨ k = 5 ∨ k = 6
  · rcases hk with rfl | rfl | rfl | rfl | rfl | rfl
    all_goals
      go_enter Tryd.func33, Tryd.ntmps33
      go_wp2_with fail
      go_ret
      exact ⟨rfl, (Upd.refl _ _).then_alloc _⟩
  · rw [numsK_no (k := k) (by omega)]
    by_cases h1 : k < 1
    · go_enter Tryd.func33, Tryd.ntmps33
      go_wp2_with fail
      go_ret
      exact ⟨rfl, Upd.refl _ _⟩
    · have h2 : 6 < k := by omega
      go_enter Tryd.func33, Tryd.ntmps33
      go_wp2_with fail
      go_ret
      exact ⟨rfl, Upd.refl _ _⟩
end Go.Proofs.YtaflpabpkpfifaaDoor
