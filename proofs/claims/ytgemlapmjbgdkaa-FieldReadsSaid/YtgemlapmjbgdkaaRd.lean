/- The walks over the readers of package field, and over the reference's. -/
import Derived.Test.YtgemlapmjbgdkaaRefA
import Derived.Deep.QuietTactic
import Derived.BigQuiet
import Derived.Deep.RegionHeld3
import Derived.StillTailTactics
import Derived.Deep.DrawnRows
namespace Go.Proofs.Ytgemlapmjbgdkaa
open Go.RowKit Go.Amb
attribute [local go_sem ↓] Go.wp_at_zero Go.wp_at_succ

/-- The number of bytes, the highest first. -/
def numL (l : List UInt8) : Int := l.foldl (fun n b => n * 256 + b.toNat) 0

theorem numL_snoc (l : List UInt8) (b : UInt8) : numL (l ++ [b]) = numL l * 256 + b.toNat := by simp [numL]
theorem foldl_num (l : List UInt8) : ∀ z : Int, 0 ≤ z → 0 ≤ l.foldl (fun n b => n * 256 + (b.toNat : Int)) z ∧ l.foldl (fun n b => n * 256 + (b.toNat : Int)) z < (z + 1) * 256 ^ l.length := by
  induction l with
  | nil => intro z hz; simp; omega
  | cons b l ih =>
    intro z hz
    have hb := b.toNat_lt
    have := ih (z * 256 + b.toNat) (by omega)
    refine ⟨this.1, Int.lt_of_lt_of_le this.2 ?_⟩
    rw [List.length_cons, Int.pow_succ, Int.mul_comm (256 ^ l.length), ← Int.mul_assoc]
    exact Int.mul_le_mul_of_nonneg_right (by omega) (Int.pow_nonneg (by decide))
theorem numL_nonneg (l : List UInt8) : 0 ≤ numL l := (foldl_num l 0 (by decide)).1
theorem numL_lt (l : List UInt8) : numL l < 256 ^ l.length := by have := (foldl_num l 0 (by decide)).2; simpa [numL] using this
theorem numL_lt_of {l : List UInt8} {m : Nat} (h : l.length ≤ m) : numL l < 256 ^ m := by
  refine Int.lt_of_lt_of_le (numL_lt l) ?_
  obtain ⟨d, rfl⟩ : ∃ d, m = l.length + d := ⟨m - l.length, by omega⟩
  rw [Int.pow_add]
  have h1 : (0 : Int) ≤ 256 ^ l.length := Int.pow_nonneg (by decide)
  have h2 : (1 : Int) ≤ 256 ^ d := by have := Int.pow_pos (n := (256 : Int)) (m := d) (by decide); omega
  have := Int.mul_le_mul_of_nonneg_left h2 h1
  omega
theorem num_step (z : Int) (b : UInt8) (h0 : 0 ≤ z) (h1 : z < 256 ^ 7) : bits .or .u64 (IntKind.u64.wrap (z * 256)) (IntKind.u64.wrap (b.toNat : Int)) = z * 256 + b.toNat := by
  have hb := b.toNat_lt
  have h1' : z < 72057594037927936 := by simpa using h1
  rw [IntWalk.u64_in (z * 256) ⟨by omega, by omega⟩, IntWalk.u64_in _ ⟨by omega, by omega⟩]
  rw [u64_or _ _ (by omega) (by omega) (by omega) (by omega)]
  rw [nat_join 8 _ _ (by omega) (by omega)]
  omega
theorem take_drop_succ (s : List UInt8) (a k : Nat) (h : a + k < s.length) : (s.drop a).take (k + 1) = (s.drop a).take k ++ [s[a + k]] := by
  rw [List.take_add_one, List.getElem?_drop, List.getElem?_eq_getElem h]; rfl

set_option maxHeartbeats 400000 in
theorem refNumber (s : List UInt8) (a m : Nat) (w : World) (h : a + m ≤ s.length) (hs : s.length ≤ 140737488355328) (hm : m ≤ 8) :
    Calls Try.prog 33 #[.string ⟨s.toArray⟩, .int .i64 a, .int .i64 m] w fun e w' => e = .returned (.int .i64 (wrap64 (numL ((s.drop a).take m)))) ∧ w = w' := by
  go_enter Try.func33, Try.ntmps33
  go_wp2_with fail
  go_loop [7, 8] (fun u i => ∃ k : Nat, k ≤ m ∧ i = .int .i64 k ∧ u = .int .u64 (numL ((s.drop a).take k))) (fun _ i => m - (intOf i).toNat)
  case atStart => exact ⟨0, by omega, rfl, rfl⟩
  case round =>
    obtain ⟨k, hk, rfl, rfl⟩ := hrel
    by_cases hlt : k < m
    · go_wp2_with fail
      go_round
      case rel =>
        refine ⟨k + 1, by omega, by go_num, ?_⟩
        rw [num_step _ _ (numL_nonneg _) (numL_lt_of (by simp; omega)), take_drop_succ s a k (by omega), numL_snoc]
        rfl
      case measure => simp [intOf]; omega
    · obtain rfl : k = m := by omega
      go_wp2_with fail
      go_ret
      exact ⟨rfl, rfl⟩

abbrev rdV (s : List UInt8) (a : Nat) (e : Int) : Value := .agg #[.string ⟨s.toArray⟩, .int .i64 a, .int .i64 e]

set_option maxHeartbeats 400000 in
theorem refFailed (s : List UInt8) (a : Nat) (e x : Int) (w : World) :
    Calls Try.prog 32 #[rdV s a e, .int .i64 x] w (Ret (rdV s a x) w) := by
  go_enter Try.func32, Try.ntmps32
  go_wp2_with fail
  go_returns
  exact ⟨rfl, ((Upd.refl _ _).then_alloc _).then_alloc _⟩

/-- A reader's next number. -/
def rdNum (s : List UInt8) (a : Nat) (e : Int) (m : Nat) : Nat × Int × Int :=
  if e = 0 then (if a + m ≤ s.length then (a + m, 0, wrap64 (numL ((s.drop a).take m))) else (a, 3, 0)) else (a, e, 0)
theorem rdNum_ok {s : List UInt8} {a m : Nat} (h : a + m ≤ s.length) : rdNum s a 0 m = (a + m, 0, wrap64 (numL ((s.drop a).take m))) := by simp [rdNum, h]
theorem rdNum_short {s : List UInt8} {a m : Nat} (h : ¬ a + m ≤ s.length) : rdNum s a 0 m = (a, 3, 0) := by simp [rdNum, h]
theorem rdNum_err {s : List UInt8} {a m : Nat} {e : Int} (h : ¬ e = 0) : rdNum s a e m = (a, e, 0) := by simp [rdNum, h]

set_option maxHeartbeats 400000 in
theorem refNum (s : List UInt8) (a : Nat) (e : Int) (m : Nat) (w : World) (ha : a ≤ s.length) (hs : s.length ≤ 140737488355328) (hm : m ≤ 8) :
    Calls Try.prog 15 #[rdV s a e, .int .i64 m] w (Ret (.tuple #[rdV s (rdNum s a e m).1 (rdNum s a e m).2.1, .int .i64 (rdNum s a e m).2.2]) w) := by
  by_cases he : e = 0
  · subst he
    by_cases h : a + m ≤ s.length
    · rw [rdNum_ok h]
      have hi : IntKind.i64.wrap ((a : Int) + (m : Int)) = ((a + m : Nat) : Int) := IntWalk.i64_in _ ⟨by omega, by omega⟩
      go_enter Try.func15, Try.ntmps15
      go_wp2_with fail
      go_region_held3 (fun w' => w'.cell? ⟨w.heap.size, 0, none⟩ = some (.string ⟨s.toArray⟩) ∧ w'.cell? ⟨w.heap.size, 1, none⟩ = some (.int .i64 a)) (go_keep) ((go_at_call 33; refine (refNumber s a m _ h hs hm).mono ?_; rintro e w' ⟨rfl, rfl⟩))
      go_wp2_with fail
      go_returns
      exact ⟨rfl, (((Upd.refl _ _).then_alloc _).then_alloc _).then_drew⟩
    · rw [rdNum_short h]
      go_enter Try.func15, Try.ntmps15
      go_wp2
      go_returns
      exact ⟨rfl, ((((Upd.refl _ _).then_alloc _).then_alloc _).then_alloc _).then_alloc _⟩
  · rw [rdNum_err he]
    have hne : (e != 0) = true := by simp [he]
    go_enter Try.func15, Try.ntmps15
    go_wp2_with fail
    go_returns
    exact ⟨rfl, ((Upd.refl _ _).then_alloc _).then_alloc _⟩

/-- A reader's next text. -/
def rdText (s : List UInt8) (a : Nat) (e : Int) (most : Int) : Nat × Int × List UInt8 :=
  if e = 0 then (if a + 4 ≤ s.length then
      (if numL ((s.drop a).take 4) ≤ max 0 most then
        (if numL ((s.drop a).take 4) ≤ (s.length : Int) - (a + 4) then (a + 4 + (numL ((s.drop a).take 4)).toNat, 0, (s.drop (a + 4)).take (numL ((s.drop a).take 4)).toNat) else (a, 3, []))
       else (a, 5, [])) else (a, 3, [])) else (a, e, [])
theorem rdText_err {s : List UInt8} {a : Nat} {e most : Int} (h : ¬ e = 0) : rdText s a e most = (a, e, []) := by simp [rdText, h]
theorem rdText_head {s : List UInt8} {a : Nat} {most : Int} (h : ¬ a + 4 ≤ s.length) : rdText s a 0 most = (a, 3, []) := by simp [rdText, h]
theorem rdText_big {s : List UInt8} {a : Nat} {most : Int} (h : a + 4 ≤ s.length) (h2 : max 0 most < numL ((s.drop a).take 4)) : rdText s a 0 most = (a, 5, []) := by
  unfold rdText; rw [if_pos rfl, if_pos h, if_neg (by omega)]
theorem rdText_short {s : List UInt8} {a : Nat} {most : Int} (h : a + 4 ≤ s.length) (h2 : numL ((s.drop a).take 4) ≤ max 0 most) (h3 : (s.length : Int) - (a + 4) < numL ((s.drop a).take 4)) : rdText s a 0 most = (a, 3, []) := by
  unfold rdText; rw [if_pos rfl, if_pos h, if_pos h2, if_neg (by omega)]
theorem rdText_ok {s : List UInt8} {a : Nat} {most : Int} (h : a + 4 ≤ s.length) (h2 : numL ((s.drop a).take 4) ≤ max 0 most) (h3 : numL ((s.drop a).take 4) ≤ (s.length : Int) - (a + 4)) :
    rdText s a 0 most = (a + 4 + (numL ((s.drop a).take 4)).toNat, 0, (s.drop (a + 4)).take (numL ((s.drop a).take 4)).toNat) := by
  unfold rdText; rw [if_pos rfl, if_pos h, if_pos h2, if_pos h3]


end Go.Proofs.Ytgemlapmjbgdkaa
