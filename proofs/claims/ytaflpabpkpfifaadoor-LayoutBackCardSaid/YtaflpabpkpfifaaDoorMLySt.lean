/- The walks over layout.State, ReadState; the reference's. -/
import Derived.Test.YtaflpabpkpfifaaDoorMLyB
namespace Go.Proofs.YtaflpabpkpfifaaDoor
set_option maxRecDepth 100000
open Go.RowKit Go.Amb
set_option linter.unusedVariables false
attribute [local go_sem ↓] Go.wp_at_zero Go.wp_at_succ

/-- A versioning's byte. -/
def stR (v : Int) : Str × Int := if 0 ≤ v ∧ v ≤ 2 then ([UInt8.ofNat (48 + v.toNat)], 0) else ([], 2)
def rsR (s : Str) : Int × Int := match s with | [c] => if 48 ≤ c.toNat ∧ c.toNat ≤ 50 then ((c.toNat : Int) - 48, 0) else (0, 4) | _ => (0, 4)
theorem stR_no {v : Int} (h : ¬ (0 ≤ v ∧ v ≤ 2)) : stR v = ([], 2) := by unfold stR; rw [if_neg h]
set_option maxHeartbeats 1000000 in
theorem yState (v : Int) (w : World) : Calls Tryd.prog 23 #[.int .i64 v] w (Ret (.tuple #[txtV (stR v).1, .int .i64 (stR v).2]) w) := by
  by_cases h : 0 ≤ v ∧ v ≤ 2
  · have h3 : v = 0 ∨ v = 1 ∨ v = 2 := by omega
    rcases h3 with rfl | rfl | rfl
    · unfold stR txtV
      have hB : Bytes (w.alloc (.cells #[.int .u8 48] 5)) (.slice (some ⟨w.heap.size, 0, none⟩) 1 1) [48] :=
        has_of_owns (World.ownsRow_lit (base := w.heap.size) (size := 1) (e := 5) w #[.int .u8 48] 1 (Nat.le_refl _) (by decide) rfl)
      have hstr := run_str (P := Tryd.prog) _ 86 9 5 Tryd.underlying86 Tryd.underlying5 Tryd.underlying9 _ _ hB
      go_enter Tryd.func23, Tryd.ntmps23
      go_wp2_with fail
      go_ret2
      exact ⟨rfl, (Upd.refl _ _).then_alloc _⟩
    · unfold stR txtV
      have hB : Bytes (w.alloc (.cells #[.int .u8 49] 5)) (.slice (some ⟨w.heap.size, 0, none⟩) 1 1) [49] :=
        has_of_owns (World.ownsRow_lit (base := w.heap.size) (size := 1) (e := 5) w #[.int .u8 49] 1 (Nat.le_refl _) (by decide) rfl)
      have hstr := run_str (P := Tryd.prog) _ 86 9 5 Tryd.underlying86 Tryd.underlying5 Tryd.underlying9 _ _ hB
      go_enter Tryd.func23, Tryd.ntmps23
      go_wp2_with fail
      go_ret2
      exact ⟨rfl, (Upd.refl _ _).then_alloc _⟩
    · unfold stR txtV
      have hB : Bytes (w.alloc (.cells #[.int .u8 50] 5)) (.slice (some ⟨w.heap.size, 0, none⟩) 1 1) [50] :=
        has_of_owns (World.ownsRow_lit (base := w.heap.size) (size := 1) (e := 5) w #[.int .u8 50] 1 (Nat.le_refl _) (by decide) rfl)
      have hstr := run_str (P := Tryd.prog) _ 86 9 5 Tryd.underlying86 Tryd.underlying5 Tryd.underlying9 _ _ hB
      go_enter Tryd.func23, Tryd.ntmps23
      go_wp2_with fail
      go_ret2
      exact ⟨rfl, (Upd.refl _ _).then_alloc _⟩
  · rw [stR_no h]
    by_cases h1 : v < 0
    · go_enter Tryd.func23, Tryd.ntmps23
      go_wp2_with fail
      go_ret2
      exact ⟨rfl, Upd.refl _ _⟩
    · have h2 : 2 < v := by omega
      go_enter Tryd.func23, Tryd.ntmps23
      go_wp2_with fail
      go_ret2
      exact ⟨rfl, Upd.refl _ _⟩
set_option maxHeartbeats 1000000 in
theorem q21State (v : Int) (w : World) : Calls Tryd.prog 24 #[.int .i64 v] w (Ret (.tuple #[txtV (stR v).1, .int .i64 (stR v).2]) w) := by
  by_cases h : 0 ≤ v ∧ v ≤ 2
  · have h3 : v = 0 ∨ v = 1 ∨ v = 2 := by omega
    rcases h3 with rfl | rfl | rfl
    all_goals
      unfold stR txtV
      go_enter Tryd.func24, Tryd.ntmps24
      go_wp2_with fail
      go_ret2
      exact ⟨rfl, Upd.refl _ _⟩
  · rw [stR_no h]
    by_cases h1 : v < 0
    · go_enter Tryd.func24, Tryd.ntmps24
      go_wp2_with fail
      go_ret2
      exact ⟨rfl, Upd.refl _ _⟩
    · have h2 : 2 < v := by omega
      go_enter Tryd.func24, Tryd.ntmps24
      go_wp2_with fail
      go_ret2
      exact ⟨rfl, Upd.refl _ _⟩
theorem rsR_len {s : Str} (h : s.length ≠ 1) : rsR s = (0, 4) := by
  match s, h with
  | [], _ => rfl
  | [c], h => exact absurd rfl h
  | a :: b :: r, _ => rfl
theorem rsR_one (c : UInt8) : rsR [c] = if 48 ≤ c.toNat ∧ c.toNat ≤ 50 then ((c.toNat : Int) - 48, 0) else (0, 4) := rfl
set_option maxHeartbeats 1000000 in
theorem yReadState (s : Str) (w : World) : Calls Tryd.prog 26 #[txtV s] w (Ret (.tuple #[.int .i64 (rsR s).1, .int .i64 (rsR s).2]) w) := by
  by_cases h1 : s.length = 1
  · obtain ⟨c, rfl⟩ := List.length_eq_one_iff.1 h1
    clear h1
    rw [rsR_one]
    unfold txtV
    obtain ⟨m, hm⟩ : ∃ m, c.toNat = m := ⟨_, rfl⟩
    have hix : ∀ h, ((⟨#[c]⟩ : ByteArray)[0]'h).toNat = m := fun h => hm
    rw [hm]
    by_cases h2 : m < 48
    · rw [if_neg (by omega)]
      have h2' : (m : Int) < 48 := by omega
      go_enter Tryd.func26, Tryd.ntmps26
      go_wp2_with fail
      go_ret2
      exact ⟨rfl, Upd.refl _ _⟩
    · have h2' : ¬ (m : Int) < 48 := by omega
      by_cases h3 : 50 < m
      · rw [if_neg (by omega)]
        have h3' : (50 : Int) < (m : Int) := by omega
        go_enter Tryd.func26, Tryd.ntmps26
        go_wp2_with fail
        go_ret2
        exact ⟨rfl, Upd.refl _ _⟩
      · rw [if_pos (by omega)]
        have h3' : ¬ (50 : Int) < (m : Int) := by omega
        have hw1 : IntKind.u8.wrap ((m : Int) - 48) = (m : Int) - 48 := by rw [IntKind.wrap_u8]; omega
        have hw2 : IntKind.i64.wrap ((m : Int) - 48) = (m : Int) - 48 := IntWalk.i64_in _ ⟨by omega, by omega⟩
        go_enter Tryd.func26, Tryd.ntmps26
        go_wp2_with fail
        go_ret2
        exact ⟨rfl, Upd.refl _ _⟩
  · rw [rsR_len h1]
    have h1' : ((s.length : Int) != 1) = true := by simp only [bne_iff_ne, ne_eq]; omega
    unfold txtV
    go_enter Tryd.func26, Tryd.ntmps26
    go_wp2_with fail
    go_ret2
    exact ⟨rfl, Upd.refl _ _⟩
set_option maxHeartbeats 1000000 in
theorem q21ReadState (s : Str) (w : World) : Calls Tryd.prog 27 #[txtV s] w (Ret (.tuple #[.int .i64 (rsR s).1, .int .i64 (rsR s).2]) w) := by
  by_cases h1 : s.length = 1
  · obtain ⟨c, rfl⟩ := List.length_eq_one_iff.1 h1
    clear h1
    rw [rsR_one]
    unfold txtV
    obtain ⟨m, hm⟩ : ∃ m, c.toNat = m := ⟨_, rfl⟩
    have hix : ∀ h, ((⟨#[c]⟩ : ByteArray)[0]'h).toNat = m := fun h => hm
    rw [hm]
    by_cases h2 : m < 48
    · rw [if_neg (by omega)]
      have h2' : (m : Int) < 48 := by omega
      go_enter Tryd.func27, Tryd.ntmps27
      go_wp2_with fail
      go_ret2
      exact ⟨rfl, Upd.refl _ _⟩
    · have h2' : ¬ (m : Int) < 48 := by omega
      by_cases h3 : 50 < m
      · rw [if_neg (by omega)]
        have h3' : (50 : Int) < (m : Int) := by omega
        go_enter Tryd.func27, Tryd.ntmps27
        go_wp2_with fail
        go_ret2
        exact ⟨rfl, Upd.refl _ _⟩
      · rw [if_pos (by omega)]
        have h3' : ¬ (50 : Int) < (m : Int) := by omega
        have hw1 : IntKind.u8.wrap ((m : Int) - 48) = (m : Int) - 48 := by rw [IntKind.wrap_u8]; omega
        have hw2 : IntKind.i64.wrap ((m : Int) - 48) = (m : Int) - 48 := IntWalk.i64_in _ ⟨by omega, by omega⟩
        go_enter Tryd.func27, Tryd.ntmps27
        go_wp2_with fail
        go_ret2
        exact ⟨rfl, Upd.refl _ _⟩
  · rw [rsR_len h1]
    have h1' : ((s.length : Int) != 1) = true := by simp only [bne_iff_ne, ne_eq]; omega
    unfold txtV
    go_enter Tryd.func27, Tryd.ntmps27
    go_wp2_with fail
    go_ret2
    exact ⟨rfl, Upd.refl _ _⟩
end Go.Proofs.YtaflpabpkpfifaaDoor
