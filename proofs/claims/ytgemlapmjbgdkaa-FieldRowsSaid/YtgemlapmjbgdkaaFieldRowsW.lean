/- The walk of FieldRows. -/
import Derived.Test.YtgemlapmjbgdkaaFL
import Derived.Test.YtgemlapmjbgdkaaFPlain
namespace Go.Proofs.Ytgemlapmjbgdkaa
open Go.RowKit Go.Amb
attribute [local go_sem ↓] Go.wp_at_zero Go.wp_at_succ

set_option maxHeartbeats 400000 in
theorem rows_out (a b c : Int) (w : World) (h : c < 0 ∨ 3 < c) : Calls Try.prog 4 #[.int .i64 a, .int .i64 b, .int .i64 c] w (Ret (.bool true) w) := by
  by_cases h0 : c < 0
  all_goals
    go_enter Try.func4, Try.ntmps4
    go_wp2_with fail
    refine (lives01 _).mono ?_
    rintro e w1 ⟨rfl, hu⟩
    go_wp2_with fail
    go_ret
    exact ⟨rfl, hu⟩

set_option maxHeartbeats 1000000 in
theorem rows_0 (a b : Int) (w : World) : Calls Try.prog 4 #[.int .i64 a, .int .i64 b, .int .i64 0] w (Ret (.bool true) w) := by
  have ha : bits .and .i64 a 255 = a % 2 ^ 8 := and_mask a 8 (by decide)
  have hb : bits .and .i64 b 255 = b % 2 ^ 8 := and_mask b 8 (by decide)
  have a0 := Int.emod_nonneg a (show (2 : Int) ^ 8 ≠ 0 by decide)
  have a1 := Int.emod_lt_of_pos a (show (0 : Int) < 2 ^ 8 by decide)
  have b0 := Int.emod_nonneg b (show (2 : Int) ^ 8 ≠ 0 by decide)
  have b1 := Int.emod_lt_of_pos b (show (0 : Int) < 2 ^ 8 by decide)
  have hl := Lib.hid (fld_less (wid 0) (a % 2 ^ 8) (b % 2 ^ 8) a0 (Int.lt_of_lt_of_le a1 (by decide)) b0 (Int.lt_of_lt_of_le b1 (by decide)))
  have hq := Lib.hid (fld_inj (wid 0) (a % 2 ^ 8) (b % 2 ^ 8) a0 (Int.lt_of_lt_of_le a1 (by decide)) b0 (Int.lt_of_lt_of_le b1 (by decide)))
  generalize a % 2 ^ 8 = x at *
  generalize b % 2 ^ 8 = y at *
  simp only [Int.reducePow] at a1 b1
  go_enter Try.func4, Try.ntmps4
  go_wp2_with fail
  clear ha hb
  go_region_with (first
    | (go_at_call_of 9 x; refine (lPut _ _ [] 0 x _ (by decide) (by omega) (by omega) (World.ownsRow_nil _ _ _ _) (by decide) (Nat.le_refl _)).mono ?_; rintro e w1 ⟨v1, rfl, ho, hu, hn⟩; have hs1 := run_str (P := Try.prog) _ 22 9 5 Try.underlying22 Try.underlying5 Try.underlying9 _ _ ho.bytes; have hw1 := hu.toNon (fun k h => by cases h); clear hu hn; replace ho := Lib.hid ho; replace hw1 := Lib.hid hw1)
    | (go_at_call_of 9 y; refine (lPut _ _ [] 0 y _ (by decide) (by omega) (by omega) (World.ownsRow_nil _ _ _ _) (by decide) (Nat.le_refl _)).mono ?_; rintro e w2 ⟨v2, rfl, ho2, hu2, hn2⟩; have hs2 := run_str (P := Try.prog) _ 22 9 5 Try.underlying22 Try.underlying5 Try.underlying9 _ _ ho2.bytes; have hw2 := hu2.toNon (fun k h => by cases h); have hs1' := run_str (P := Try.prog) _ 22 9 5 Try.underlying22 Try.underlying5 Try.underlying9 _ _ (ho.out.bytes.upd hw2 (fun _ _ h => h)); clear hu2 hn2; replace ho2 := Lib.hid ho2; replace hw2 := Lib.hid hw2))
  all_goals
    have hU := ((Upd.alloc Non w _).then_drew).trans (hw1.out.trans hw2.out fun _ _ h => h) fun _ _ h => h
    replace hU := Lib.hid hU
    clear hs1 hs2 hs1' ho ho2 hw1 hw2
    have hl := hl.out
    have hq := hq.out
    have hn : (fld x (wid 0)).length = 1 := fld_length x (wid 0)
    have hxy : (x == y) = decide (x = y) := by rw [Bool.eq_iff_iff]; simp
    go_wp2_with fail
    refine (lives01 _).mono ?_
    rintro e w3 ⟨rfl, hu⟩
    go_wp2_with fail
    go_ret
    exact ⟨rfl, hU.out.trans hu fun _ _ h => h⟩
set_option maxHeartbeats 1000000 in
theorem rows_1 (a b : Int) (w : World) : Calls Try.prog 4 #[.int .i64 a, .int .i64 b, .int .i64 1] w (Ret (.bool true) w) := by
  have ha : bits .and .i64 a 65535 = a % 2 ^ 16 := and_mask a 16 (by decide)
  have hb : bits .and .i64 b 65535 = b % 2 ^ 16 := and_mask b 16 (by decide)
  have a0 := Int.emod_nonneg a (show (2 : Int) ^ 16 ≠ 0 by decide)
  have a1 := Int.emod_lt_of_pos a (show (0 : Int) < 2 ^ 16 by decide)
  have b0 := Int.emod_nonneg b (show (2 : Int) ^ 16 ≠ 0 by decide)
  have b1 := Int.emod_lt_of_pos b (show (0 : Int) < 2 ^ 16 by decide)
  have hl := Lib.hid (fld_less (wid 1) (a % 2 ^ 16) (b % 2 ^ 16) a0 (Int.lt_of_lt_of_le a1 (by decide)) b0 (Int.lt_of_lt_of_le b1 (by decide)))
  have hq := Lib.hid (fld_inj (wid 1) (a % 2 ^ 16) (b % 2 ^ 16) a0 (Int.lt_of_lt_of_le a1 (by decide)) b0 (Int.lt_of_lt_of_le b1 (by decide)))
  generalize a % 2 ^ 16 = x at *
  generalize b % 2 ^ 16 = y at *
  simp only [Int.reducePow] at a1 b1
  go_enter Try.func4, Try.ntmps4
  go_wp2_with fail
  clear ha hb
  go_region_with (first
    | (go_at_call_of 9 x; refine (lPut _ _ [] 1 x _ (by decide) (by omega) (by omega) (World.ownsRow_nil _ _ _ _) (by decide) (Nat.le_refl _)).mono ?_; rintro e w1 ⟨v1, rfl, ho, hu, hn⟩; have hs1 := run_str (P := Try.prog) _ 22 9 5 Try.underlying22 Try.underlying5 Try.underlying9 _ _ ho.bytes; have hw1 := hu.toNon (fun k h => by cases h); clear hu hn; replace ho := Lib.hid ho; replace hw1 := Lib.hid hw1)
    | (go_at_call_of 9 y; refine (lPut _ _ [] 1 y _ (by decide) (by omega) (by omega) (World.ownsRow_nil _ _ _ _) (by decide) (Nat.le_refl _)).mono ?_; rintro e w2 ⟨v2, rfl, ho2, hu2, hn2⟩; have hs2 := run_str (P := Try.prog) _ 22 9 5 Try.underlying22 Try.underlying5 Try.underlying9 _ _ ho2.bytes; have hw2 := hu2.toNon (fun k h => by cases h); have hs1' := run_str (P := Try.prog) _ 22 9 5 Try.underlying22 Try.underlying5 Try.underlying9 _ _ (ho.out.bytes.upd hw2 (fun _ _ h => h)); clear hu2 hn2; replace ho2 := Lib.hid ho2; replace hw2 := Lib.hid hw2))
  all_goals
    have hU := ((Upd.alloc Non w _).then_drew).trans (hw1.out.trans hw2.out fun _ _ h => h) fun _ _ h => h
    replace hU := Lib.hid hU
    clear hs1 hs2 hs1' ho ho2 hw1 hw2
    have hl := hl.out
    have hq := hq.out
    have hn : (fld x (wid 1)).length = 2 := fld_length x (wid 1)
    have hxy : (x == y) = decide (x = y) := by rw [Bool.eq_iff_iff]; simp
    go_wp2_with fail
    refine (lives01 _).mono ?_
    rintro e w3 ⟨rfl, hu⟩
    go_wp2_with fail
    go_ret
    exact ⟨rfl, hU.out.trans hu fun _ _ h => h⟩
set_option maxHeartbeats 1000000 in
theorem rows_2 (a b : Int) (w : World) : Calls Try.prog 4 #[.int .i64 a, .int .i64 b, .int .i64 2] w (Ret (.bool true) w) := by
  have ha : bits .and .i64 a 4294967295 = a % 2 ^ 32 := and_mask a 32 (by decide)
  have hb : bits .and .i64 b 4294967295 = b % 2 ^ 32 := and_mask b 32 (by decide)
  have a0 := Int.emod_nonneg a (show (2 : Int) ^ 32 ≠ 0 by decide)
  have a1 := Int.emod_lt_of_pos a (show (0 : Int) < 2 ^ 32 by decide)
  have b0 := Int.emod_nonneg b (show (2 : Int) ^ 32 ≠ 0 by decide)
  have b1 := Int.emod_lt_of_pos b (show (0 : Int) < 2 ^ 32 by decide)
  have hl := Lib.hid (fld_less (wid 2) (a % 2 ^ 32) (b % 2 ^ 32) a0 (Int.lt_of_lt_of_le a1 (by decide)) b0 (Int.lt_of_lt_of_le b1 (by decide)))
  have hq := Lib.hid (fld_inj (wid 2) (a % 2 ^ 32) (b % 2 ^ 32) a0 (Int.lt_of_lt_of_le a1 (by decide)) b0 (Int.lt_of_lt_of_le b1 (by decide)))
  generalize a % 2 ^ 32 = x at *
  generalize b % 2 ^ 32 = y at *
  simp only [Int.reducePow] at a1 b1
  go_enter Try.func4, Try.ntmps4
  go_wp2_with fail
  clear ha hb
  go_region_with (first
    | (go_at_call_of 9 x; refine (lPut _ _ [] 2 x _ (by decide) (by omega) (by omega) (World.ownsRow_nil _ _ _ _) (by decide) (Nat.le_refl _)).mono ?_; rintro e w1 ⟨v1, rfl, ho, hu, hn⟩; have hs1 := run_str (P := Try.prog) _ 22 9 5 Try.underlying22 Try.underlying5 Try.underlying9 _ _ ho.bytes; have hw1 := hu.toNon (fun k h => by cases h); clear hu hn; replace ho := Lib.hid ho; replace hw1 := Lib.hid hw1)
    | (go_at_call_of 9 y; refine (lPut _ _ [] 2 y _ (by decide) (by omega) (by omega) (World.ownsRow_nil _ _ _ _) (by decide) (Nat.le_refl _)).mono ?_; rintro e w2 ⟨v2, rfl, ho2, hu2, hn2⟩; have hs2 := run_str (P := Try.prog) _ 22 9 5 Try.underlying22 Try.underlying5 Try.underlying9 _ _ ho2.bytes; have hw2 := hu2.toNon (fun k h => by cases h); have hs1' := run_str (P := Try.prog) _ 22 9 5 Try.underlying22 Try.underlying5 Try.underlying9 _ _ (ho.out.bytes.upd hw2 (fun _ _ h => h)); clear hu2 hn2; replace ho2 := Lib.hid ho2; replace hw2 := Lib.hid hw2))
  all_goals
    have hU := ((Upd.alloc Non w _).then_drew).trans (hw1.out.trans hw2.out fun _ _ h => h) fun _ _ h => h
    replace hU := Lib.hid hU
    clear hs1 hs2 hs1' ho ho2 hw1 hw2
    have hl := hl.out
    have hq := hq.out
    have hn : (fld x (wid 2)).length = 4 := fld_length x (wid 2)
    have hxy : (x == y) = decide (x = y) := by rw [Bool.eq_iff_iff]; simp
    go_wp2_with fail
    refine (lives01 _).mono ?_
    rintro e w3 ⟨rfl, hu⟩
    go_wp2_with fail
    go_ret
    exact ⟨rfl, hU.out.trans hu fun _ _ h => h⟩
set_option maxHeartbeats 1000000 in
theorem rows_3 (a b : Int) (w : World) : Calls Try.prog 4 #[.int .i64 a, .int .i64 b, .int .i64 3] w (Ret (.bool true) w) := by
  have ha : bits .and .i64 a 9223372036854775807 = a % 2 ^ 63 := and_mask a 63 (by decide)
  have hb : bits .and .i64 b 9223372036854775807 = b % 2 ^ 63 := and_mask b 63 (by decide)
  have a0 := Int.emod_nonneg a (show (2 : Int) ^ 63 ≠ 0 by decide)
  have a1 := Int.emod_lt_of_pos a (show (0 : Int) < 2 ^ 63 by decide)
  have b0 := Int.emod_nonneg b (show (2 : Int) ^ 63 ≠ 0 by decide)
  have b1 := Int.emod_lt_of_pos b (show (0 : Int) < 2 ^ 63 by decide)
  have hl := Lib.hid (fld_less (wid 3) (a % 2 ^ 63) (b % 2 ^ 63) a0 (Int.lt_of_lt_of_le a1 (by decide)) b0 (Int.lt_of_lt_of_le b1 (by decide)))
  have hq := Lib.hid (fld_inj (wid 3) (a % 2 ^ 63) (b % 2 ^ 63) a0 (Int.lt_of_lt_of_le a1 (by decide)) b0 (Int.lt_of_lt_of_le b1 (by decide)))
  generalize a % 2 ^ 63 = x at *
  generalize b % 2 ^ 63 = y at *
  simp only [Int.reducePow] at a1 b1
  go_enter Try.func4, Try.ntmps4
  go_wp2_with fail
  clear ha hb
  go_region_with (first
    | (go_at_call_of 9 x; refine (lPut _ _ [] 3 x _ (by decide) (by omega) (by omega) (World.ownsRow_nil _ _ _ _) (by decide) (Nat.le_refl _)).mono ?_; rintro e w1 ⟨v1, rfl, ho, hu, hn⟩; have hs1 := run_str (P := Try.prog) _ 22 9 5 Try.underlying22 Try.underlying5 Try.underlying9 _ _ ho.bytes; have hw1 := hu.toNon (fun k h => by cases h); clear hu hn; replace ho := Lib.hid ho; replace hw1 := Lib.hid hw1)
    | (go_at_call_of 9 y; refine (lPut _ _ [] 3 y _ (by decide) (by omega) (by omega) (World.ownsRow_nil _ _ _ _) (by decide) (Nat.le_refl _)).mono ?_; rintro e w2 ⟨v2, rfl, ho2, hu2, hn2⟩; have hs2 := run_str (P := Try.prog) _ 22 9 5 Try.underlying22 Try.underlying5 Try.underlying9 _ _ ho2.bytes; have hw2 := hu2.toNon (fun k h => by cases h); have hs1' := run_str (P := Try.prog) _ 22 9 5 Try.underlying22 Try.underlying5 Try.underlying9 _ _ (ho.out.bytes.upd hw2 (fun _ _ h => h)); clear hu2 hn2; replace ho2 := Lib.hid ho2; replace hw2 := Lib.hid hw2))
  all_goals
    have hU := ((Upd.alloc Non w _).then_drew).trans (hw1.out.trans hw2.out fun _ _ h => h) fun _ _ h => h
    replace hU := Lib.hid hU
    clear hs1 hs2 hs1' ho ho2 hw1 hw2
    have hl := hl.out
    have hq := hq.out
    have hn : (fld x (wid 3)).length = 8 := fld_length x (wid 3)
    have hxy : (x == y) = decide (x = y) := by rw [Bool.eq_iff_iff]; simp
    go_wp2_with fail
    refine (lives01 _).mono ?_
    rintro e w3 ⟨rfl, hu⟩
    go_wp2_with fail
    go_ret
    exact ⟨rfl, hU.out.trans hu fun _ _ h => h⟩

theorem rows_all (a b c : Int) (w : World) : Calls Try.prog 4 #[.int .i64 a, .int .i64 b, .int .i64 c] w (Ret (.bool true) w) := by
  by_cases h : c < 0 ∨ 3 < c
  · exact rows_out a b c w h
  · obtain rfl | rfl | rfl | rfl : c = 0 ∨ c = 1 ∨ c = 2 ∨ c = 3 := by omega
    · exact rows_0 a b w
    · exact rows_1 a b w
    · exact rows_2 a b w
    · exact rows_3 a b w
end Go.Proofs.Ytgemlapmjbgdkaa
