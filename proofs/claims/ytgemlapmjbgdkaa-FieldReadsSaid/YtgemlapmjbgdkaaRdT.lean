/- The reference reader's texts. -/
import Derived.Test.YtgemlapmjbgdkaaRd
namespace Go.Proofs.Ytgemlapmjbgdkaa
open Go.RowKit Go.Amb
attribute [local go_sem ↓] Go.wp_at_zero Go.wp_at_succ

theorem max0_pos {most : Int} (h : 0 < most) : max 0 most = most := by omega
theorem max0_neg {most : Int} (h : ¬ 0 < most) : max 0 most = 0 := by omega
/-- The number of the four bytes ahead: what the walk wants to know of it. -/
theorem num4 (s : List UInt8) (a : Nat) (h : a + 4 ≤ s.length) : ∃ z : Nat, numL ((s.drop a).take 4) = z ∧ z < 4294967296 ∧ rdNum s a 0 4 = (a + 4, 0, (z : Int)) := by
  have hq0 := numL_nonneg ((s.drop a).take 4)
  have hq1 := numL_lt_of (l := (s.drop a).take 4) (m := 4) (by simp; omega)
  simp only [Int.reducePow] at hq1
  obtain ⟨z, hz⟩ := Int.eq_ofNat_of_zero_le hq0
  refine ⟨z, hz, by omega, ?_⟩
  rw [rdNum_ok h, hz, IntWalk.wrap64_in _ ⟨by omega, by omega⟩]

section
variable (s : List UInt8) (a : Nat) (w : World) (ha : a ≤ s.length) (hs : s.length ≤ 140737488355328)
include ha hs

set_option maxHeartbeats 400000 in
theorem refTextR_err (e most : Int) (he : ¬ e = 0) :
    Calls Try.prog 17 #[rdV s a e, .int .i64 most] w (Ret (.tuple #[rdV s a e, .string ⟨[].toArray⟩]) w) := by
  have hnum := Lib.hid (fun w => refNum s a e 4 w ha hs (by omega))
  have hn := Lib.hid (rdNum_err (s := s) (a := a) (m := 4) he)
  have hne : (e != 0) = true := by simp [he]
  go_enter Try.func17, Try.ntmps17
  go_wp2_with fail
  refine (hnum.out _).mono ?_
  rw [hn.out]
  rintro e w1 ⟨rfl, hu⟩
  obtain ⟨c0, f0, c1, f1, hz0, hz1, hu'⟩ := hu.own2 fun _ h => h.elim
  clear hu
  go_wp2
  refine bodyPost_ret (v := .tuple #[rdV s a e, .string ⟨#[]⟩]) (by simp [results, Try.results17, go_sem, c1, hz1]) rfl ⟨rfl, by (repeat (first | (with_reducible exact Upd.refl _ _) | (with_reducible assumption) | (with_reducible refine Upd.then_drew ?_) | (with_reducible refine Upd.then_drewN ?_ _) | (with_reducible refine Upd.then_alloc ?_ _) | (with_reducible refine Upd.then_setCell ?_ (fun h => absurd h (by simp <;> omega)) _) | (with_reducible refine Upd.trans ?_ (Upd.non (by assumption)) (fun _ _ h => h))))⟩

set_option maxHeartbeats 400000 in
theorem refTextR_head (most : Int) (h : ¬ a + 4 ≤ s.length) :
    Calls Try.prog 17 #[rdV s a 0, .int .i64 most] w (Ret (.tuple #[rdV s a 3, .string ⟨[].toArray⟩]) w) := by
  have hnum := Lib.hid (fun w => refNum s a 0 4 w ha hs (by omega))
  have hn := Lib.hid (rdNum_short h)
  go_enter Try.func17, Try.ntmps17
  go_wp2_with fail
  refine (hnum.out _).mono ?_
  rw [hn.out]
  rintro e w1 ⟨rfl, hu⟩
  obtain ⟨c0, f0, c1, f1, hz0, hz1, hu'⟩ := hu.own2 fun _ h => h.elim
  clear hu
  go_wp2
  refine bodyPost_ret (v := .tuple #[rdV s a 3, .string ⟨#[]⟩]) (by simp [results, Try.results17, go_sem, c1, hz1]) rfl ⟨rfl, by (repeat (first | (with_reducible exact Upd.refl _ _) | (with_reducible assumption) | (with_reducible refine Upd.then_drew ?_) | (with_reducible refine Upd.then_drewN ?_ _) | (with_reducible refine Upd.then_alloc ?_ _) | (with_reducible refine Upd.then_setCell ?_ (fun h => absurd h (by simp <;> omega)) _) | (with_reducible refine Upd.trans ?_ (Upd.non (by assumption)) (fun _ _ h => h))))⟩

set_option maxHeartbeats 400000 in
theorem refTextR_big (most : Int) (z : Nat) (hz : z < 4294967296) (hn : rdNum s a 0 4 = (a + 4, 0, (z : Int))) (h2 : max 0 most < (z : Int)) :
    Calls Try.prog 17 #[rdV s a 0, .int .i64 most] w (Ret (.tuple #[rdV s a 5, .string ⟨[].toArray⟩]) w) := by
  have hnum := Lib.hid (fun w => refNum s a 0 4 w ha hs (by omega))
  replace hn := Lib.hid hn
  go_enter Try.func17, Try.ntmps17
  go_wp2_with fail
  refine (hnum.out _).mono ?_
  rw [hn.out]
  rintro e w1 ⟨rfl, hu⟩
  obtain ⟨c0, f0, c1, f1, hz0, hz1, hu'⟩ := hu.own2 fun _ h => h.elim
  clear hu
  by_cases hp : 0 < most
  all_goals
    first | rw [max0_pos hp] at h2 | rw [max0_neg hp] at h2
    go_wp2
    refine bodyPost_ret (v := .tuple #[rdV s a 5, .string ⟨#[]⟩]) (by simp [results, Try.results17, go_sem, c1, hz0, hz1]) rfl ⟨rfl, by (repeat (first | (with_reducible exact Upd.refl _ _) | (with_reducible assumption) | (with_reducible refine Upd.then_drew ?_) | (with_reducible refine Upd.then_drewN ?_ _) | (with_reducible refine Upd.then_alloc ?_ _) | (with_reducible refine Upd.then_setCell ?_ (fun h => absurd h (by simp <;> omega)) _) | (with_reducible refine Upd.trans ?_ (Upd.non (by assumption)) (fun _ _ h => h))))⟩

set_option maxHeartbeats 400000 in
theorem refTextR_short (most : Int) (z : Nat) (hz : z < 4294967296) (hn : rdNum s a 0 4 = (a + 4, 0, (z : Int))) (h : a + 4 ≤ s.length) (h2 : (z : Int) ≤ max 0 most) (h3 : (s.length : Int) - (a + 4) < z) :
    Calls Try.prog 17 #[rdV s a 0, .int .i64 most] w (Ret (.tuple #[rdV s a 3, .string ⟨[].toArray⟩]) w) := by
  have hnum := Lib.hid (fun w => refNum s a 0 4 w ha hs (by omega))
  replace hn := Lib.hid hn
  go_enter Try.func17, Try.ntmps17
  go_wp2_with fail
  refine (hnum.out _).mono ?_
  rw [hn.out]
  rintro e w1 ⟨rfl, hu⟩
  obtain ⟨c0, f0, c1, f1, hz0, hz1, hu'⟩ := hu.own2 fun _ h => h.elim
  clear hu
  by_cases hp : 0 < most
  · rw [max0_pos hp] at h2
    go_wp2
    refine bodyPost_ret (v := .tuple #[rdV s a 3, .string ⟨#[]⟩]) (by simp [results, Try.results17, go_sem, c1, hz0, hz1]) rfl ⟨rfl, by (repeat (first | (with_reducible exact Upd.refl _ _) | (with_reducible assumption) | (with_reducible refine Upd.then_drew ?_) | (with_reducible refine Upd.then_drewN ?_ _) | (with_reducible refine Upd.then_alloc ?_ _) | (with_reducible refine Upd.then_setCell ?_ (fun h => absurd h (by simp <;> omega)) _) | (with_reducible refine Upd.trans ?_ (Upd.non (by assumption)) (fun _ _ h => h))))⟩
  · omega

set_option maxHeartbeats 400000 in
theorem refTextR_ok (most : Int) (z : Nat) (hz : z < 4294967296) (hn : rdNum s a 0 4 = (a + 4, 0, (z : Int))) (h : a + 4 + z ≤ s.length) (h2 : (z : Int) ≤ max 0 most) :
    Calls Try.prog 17 #[rdV s a 0, .int .i64 most] w (Ret (.tuple #[rdV s (a + 4 + z) 0, .string ⟨((s.drop (a + 4)).take z).toArray⟩]) w) := by
  have hnum := Lib.hid (fun w => refNum s a 0 4 w ha hs (by omega))
  replace hn := Lib.hid hn
  go_enter Try.func17, Try.ntmps17
  go_wp2_with fail
  refine (hnum.out _).mono ?_
  rw [hn.out]
  rintro e w1 ⟨rfl, hu⟩
  obtain ⟨c0, f0, c1, f1, hz0, hz1, hu'⟩ := hu.own2 fun _ h => h.elim
  clear hu
  have h3 : (z : Int) ≤ s.length - (a + 4) := by omega
  have hi : IntKind.i64.wrap ((a : Int) + 4 + (z : Int)) = (a : Int) + 4 + (z : Int) := IntWalk.i64_in _ ⟨by omega, by omega⟩
  have hb1 : (a : Int) + 4 ≤ (a : Int) + 4 + (z : Int) := by omega
  have hb2 : (a : Int) + 4 + (z : Int) ≤ (s.length : Int) := by omega
  replace hi := Lib.hid hi
  by_cases hp : 0 < most
  all_goals
    first | rw [max0_pos hp] at h2 | rw [max0_neg hp] at h2
    go_wp2_with fail
    have hi := hi.out
    have hsl := fun w => run_sub (P := Try.prog) 9 Try.underlying9 s ((a : Int) + 4) ((a : Int) + 4 + z) (a + 4) (a + 4 + z) (by omega) (by omega) (by omega) (by omega) w
    rw [show a + 4 + z - (a + 4) = z by omega] at hsl
    have hk : ∀ x y q j, ((((w1.setCell ⟨w.heap.size + 1, 0, none⟩ x).setCell ⟨w.heap.size + 1, 1, none⟩ y).setCell ⟨w.heap.size + 1, 2, none⟩ q).alloc (.cells #[.string ⟨s.toArray⟩, .int .i64 ((a : Int) + 4), .int .i64 0] 36)).cell? ⟨w1.heap.size, j, none⟩ = #[.string ⟨s.toArray⟩, .int .i64 ((a : Int) + 4), .int .i64 0][j]? := fun x y q j => World.cell?_alloc_at _ _ _ _ (by simp)
    go_region_held3 (fun w' => w'.cell? ⟨w.heap.size, 0, none⟩ = some (.string ⟨s.toArray⟩) ∧ w'.cell? ⟨w1.heap.size, 1, none⟩ = some (.int .i64 ((a : Int) + 4))) (go_keep) (fail)
    go_wp2_with fail
    refine bodyPost_ret (v := .tuple #[rdV s (a + 4 + z) 0, .string ⟨((s.drop (a + 4)).take z).toArray⟩]) (by simp [results, Try.results17, go_sem, c1, hz1]) rfl ⟨rfl, by (repeat (first | (with_reducible exact Upd.refl _ _) | (with_reducible assumption) | (with_reducible refine Upd.then_drew ?_) | (with_reducible refine Upd.then_drewN ?_ _) | (with_reducible refine Upd.then_alloc ?_ _) | (with_reducible refine Upd.then_setCell ?_ (fun h => absurd h (by simp <;> omega)) _) | (with_reducible refine Upd.trans ?_ (Upd.non (by assumption)) (fun _ _ h => h))))⟩
end
end Go.Proofs.Ytgemlapmjbgdkaa
