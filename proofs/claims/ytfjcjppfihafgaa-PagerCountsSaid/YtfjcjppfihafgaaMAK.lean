/- Plain: the first of so many free pages that follow one another. -/
import Derived.Test.YtfjcjppfihafgaaMAJ
import Derived.Test.YtfjcjppfihafgaaMLibD
namespace Go.Proofs.Ytfjcjppfihafgaa
set_option maxRecDepth 100000
open Go.RowKit Go.Amb
set_option linter.unusedVariables false

theorem runN_le (B n : Nat) : ∀ (m i : Nat), runN B n i m ≤ m := by
  intro m
  induction m with
  | zero => intro i; exact Nat.le_refl _
  | succ m ih =>
    intro i
    rw [runN]
    split
    · have := ih (i + 1); omega
    · omega
/-- The pages of a run are free. -/
theorem runN_free (B n : Nat) : ∀ (m i j : Nat), j < runN B n i m → i + j < n ∧ B.testBit (i + j) = false := by
  intro m
  induction m with
  | zero => intro i j h; cases h
  | succ m ih =>
    intro i j h
    rw [runN] at h
    by_cases hc : i < n ∧ B.testBit i = false
    · rw [if_pos hc] at h
      cases j with
      | zero => exact hc
      | succ j =>
        have := ih (i + 1) j (by omega)
        rw [show i + (j + 1) = i + 1 + j by omega]
        exact this
    · rw [if_neg hc] at h; cases h
/-- Behind a run that is too short stands a page that is taken, or none. -/
theorem runN_end (B n : Nat) : ∀ (m i : Nat), runN B n i m < m → ¬ (i + runN B n i m < n ∧ B.testBit (i + runN B n i m) = false) := by
  intro m
  induction m with
  | zero => intro i h; cases h
  | succ m ih =>
    intro i h
    by_cases hc : i < n ∧ B.testBit i = false
    · have e : runN B n i (m + 1) = runN B n (i + 1) m + 1 := by rw [runN, if_pos hc]
      rw [e] at h ⊢
      have := ih (i + 1) (by omega)
      rw [show i + (runN B n (i + 1) m + 1) = i + 1 + runN B n (i + 1) m by omega]
      exact this
    · have e : runN B n i (m + 1) = 0 := by rw [runN, if_neg hc]
      rw [e]
      exact hc
/-- Where a page is taken, or there is none, no run reaches beyond. -/
theorem runN_block {B n i p m : Nat} (h : ¬ (p < n ∧ B.testBit p = false)) (hi : i ≤ p) : runN B n i m ≤ p - i := by
  by_cases hr : runN B n i m ≤ p - i
  · exact hr
  · have := runN_free B n m i (p - i) (by omega)
    rw [show i + (p - i) = p by omega] at this
    exact absurd this h
/-- The first page from which on so many are free. -/
def findN (B n k : Nat) : Option Nat := (List.range n).find? fun i => runN B n i k == k
theorem findN_some {B n k i : Nat} (hi : i < n) (h : runN B n i k = k) (hb : ∀ j, j < i → runN B n j k ≠ k) : findN B n k = some i := by
  unfold findN
  rw [List.find?_range_eq_some]
  exact ⟨by simp [h], by simp [hi], fun j hj => by simp [hb j hj]⟩
theorem findN_none {B n k : Nat} (hb : ∀ j, j < n → runN B n j k ≠ k) : findN B n k = none := by
  unfold findN
  rw [List.find?_eq_none]
  intro j hj
  simp [hb j (List.mem_range.1 hj)]
end Go.Proofs.Ytfjcjppfihafgaa

namespace Go.Proofs.Ytfjcjppfihafgaa
set_option maxRecDepth 100000
open Go.RowKit Go.Amb
set_option linter.unusedVariables false
attribute [local irreducible] popc

theorem word_full {B j i : Nat} (h : wordN B j = 18446744073709551615) (hi : i / 64 = j) : B.testBit i = true := by
  have := wordN_bit B j (i % 64) (Nat.mod_lt _ (by decide))
  rw [h, show 64 * j + i % 64 = i by omega] at this
  rw [← this, show (18446744073709551615 : Nat) = 2 ^ 64 - 1 from rfl, Nat.testBit_two_pow_sub_one]
  simp; omega
/-- What find tells. -/
def findV (x : Option Nat) : Value := match x with
  | none => .tuple #[.int .i64 0, .bool false]
  | some i => .tuple #[.int .i64 (i : Int), .bool true]
set_option maxHeartbeats 4000000 in
theorem aFind (r g n B k : Nat) (w : World) (h : AllocAt w r g n B) (hk : 0 < k) (hk2 : k < 9223372036854775808) : Calls Try.prog 42 #[.pointer (some ⟨r, 0, none⟩), .int .i64 (k : Int)] w (Ret (findV (findN B n k)) w) := by
  have hA := h
  have h2 := h.most
  have h1 := h.size
  obtain ⟨c, hc, hcm, h3⟩ := h.cap
  clear h
  have hwd := hA.word
  have hm1 : (n + 63) / 64 ≤ 256 := by omega
  go_enter Try.func42, Try.ntmps42
  go_wp2_with fail
  refine wp_scopes' (fun _ _ _ => False) (fun _ _ _ => 0) (fun _ _ _ h => h.elim) (fun _ => ?_)
  go_wp2_with fail
  go_step3
  simp only [Exit.then]
  refine (by assumption : ∀ (a : Act) (w : World), Code.wp _ _ _ a w → _) _ _ ?_
  go_wp2_with fail
  go_loopw [6] (fun iv wr => ∃ i : Nat, iv = .int .i64 (i : Int) ∧ i ≤ n + 64 ∧ (∀ j, j < i → j < n → runN B n j k ≠ k) ∧ Upd Non w wr) (fun iv _ => n + 64 - (intOf iv).toNat)
  case atStart => exact ⟨0, rfl, by omega, fun j h => by omega, Upd.refl _ _⟩
  case round =>
    obtain ⟨i, rfl, hi, hno, hu⟩ := hrel
    have hAr := hA.non hu
    have c1 := hu.cell h1 fun h => h
    have c3 := hu.cell h3 fun h => h
    by_cases hin : i < n
    · have hin' : (i : Int) < n := by omega
      have hj : i / 64 < (n + 63) / 64 := by omega
      have hb := Lib.hid (fun w => aBit i w (by omega))
      obtain ⟨dw, -⟩ := hAr.word _ hj
      have hfull := @word_full B (i / 64)
      have hq : (i : Int).tmod 64 = ((i % 64 : Nat) : Int) := rfl
      have hr2 : IntKind.i64.wrap ((i % 64 : Nat) : Int) = ((i % 64 : Nat) : Int) := IntWalk.i64_in _ ⟨by omega, by omega⟩
      have hj0 : (0 : Int) ≤ ((i / 64 : Nat) : Int) := by omega
      have hj1 : ((i / 64 : Nat) : Int) < (((n + 63) / 64 : Nat) : Int) := by omega
      have hfl : i % 64 = 0 → wordN B (i / 64) = 18446744073709551615 → ∀ p, i ≤ p → p < i + 64 → B.testBit p = true := fun h h2 p h3 h4 => word_full h2 (by omega)
      generalize hx : wordN B (i / 64) = x at *
      generalize hz : i % 64 = z at *
      generalize hjj : i / 64 = j at *
      generalize hmm : (n + 63) / 64 = m at *
      have hrun := Lib.hid (aRun r g n B i k · · (by omega) hk2)
      have hfs := Lib.hid (@findN_some B n k i hin)
      have hend := Lib.hid (runN_end B n k i)
      have hle := runN_le B n k i
      have hfr := runN_free B n k i (runN B n i k - 1)
      have hgn : i + runN B n i k ≤ n := by
        by_cases h0 : runN B n i k = 0
        · omega
        · have := (hfr (by omega)).1; omega
      clear hfr
      replace hno := Lib.hid hno
      generalize hgg : runN B n i k = got at *
      have a1 : IntKind.i64.wrap ((got : Int) + 1) = ((got + 1 : Nat) : Int) := IntWalk.i64_in _ ⟨by omega, by omega⟩
      have a2 : IntKind.i64.wrap ((i : Int) + ((got + 1 : Nat) : Int)) = ((i + (got + 1) : Nat) : Int) := IntWalk.i64_in _ ⟨by omega, by omega⟩
      have hw64 : IntKind.i64.wrap ((i : Int) + 64) = ((i + 64 : Nat) : Int) := IntWalk.i64_in _ ⟨by omega, by omega⟩
      replace hfl := Lib.hid hfl
      clear hfull hwd
      by_cases hz0 : z = 0
      · subst hz0
        by_cases hx1 : x = 18446744073709551615
        · subst hx1
          go_wp2_with fail
          refine (hb.out _).mono ?_
          rintro e w1 ⟨rfl, hu1⟩
          have d1 := hu1.cell c1 fun h => h
          have d3 := hu1.cell c3 fun h => h
          have d2 := hu1.cell dw fun h => h
          go_wp2_with fail
          go_roundw
          case rel => exact ⟨i + 64, by go_num, by omega, by
            intro p h3 h4 h5
            by_cases h6 : p < i
            · exact hno.out p h6 h4 h5
            · have h7 := hfl.out (by simp) (by simp) p (by omega) (by omega)
              rw [runN_stop (by simp [h7])] at h5
              omega, hu.trans hu1 fun _ _ h => h⟩
          case measure => simp [intOf]; omega
        · have hx2 : ¬ (x : Int) = 18446744073709551615 := by omega
          go_wp2_with fail
          refine (hb.out _).mono ?_
          rintro e w1 ⟨rfl, hu1⟩
          have d1 := hu1.cell c1 fun h => h
          have d3 := hu1.cell c3 fun h => h
          have d2 := hu1.cell dw fun h => h
          have hA1 := hAr.non hu1
          go_wp2_with fail
          refine (hrun.out w1 hA1).mono ?_
          rintro e w2 ⟨rfl, hu2⟩
          by_cases hg : got = k
          · subst hg
            go_wp2_with fail
            go_ret2
            exact ⟨by rw [hfs.out (by simp) (fun p hp => hno.out p hp (by omega))]; rfl, (hu.trans hu1 fun _ _ h => h).trans hu2 fun _ _ h => h⟩
          · have hg2 : ((got : Int) == (k : Int)) = false := beq_eq_false_iff_ne.2 (by omega)
            have hg3 : ¬ (got : Int) = (k : Int) := by omega
            go_wp2_with fail
            go_roundw
            case rel => exact ⟨i + (got + 1), by go_num, by omega, by
              intro p h3 h4 h5
              by_cases h6 : p < i
              · exact hno.out p h6 h4 h5
              · have := @runN_block B n p (i + got) k (hend.out (by omega)) (by omega); omega, (hu.trans hu1 fun _ _ h => h).trans hu2 fun _ _ h => h⟩
            case measure => simp [intOf]; omega
      · have hz2 : ¬ (z : Int) = 0 := by omega
        go_wp2_with fail
        refine (hb.out _).mono ?_
        rintro e w1 ⟨rfl, hu1⟩
        have d1 := hu1.cell c1 fun h => h
        have d3 := hu1.cell c3 fun h => h
        have d2 := hu1.cell dw fun h => h
        have hA1 := hAr.non hu1
        go_wp2_with fail
        refine (hrun.out w1 hA1).mono ?_
        rintro e w2 ⟨rfl, hu2⟩
        by_cases hg : got = k
        · subst hg
          go_wp2_with fail
          go_ret2
          exact ⟨by rw [hfs.out (by simp) (fun p hp => hno.out p hp (by omega))]; rfl, (hu.trans hu1 fun _ _ h => h).trans hu2 fun _ _ h => h⟩
        · have hg2 : ((got : Int) == (k : Int)) = false := beq_eq_false_iff_ne.2 (by omega)
          have hg3 : ¬ (got : Int) = (k : Int) := by omega
          go_wp2_with fail
          go_roundw
          case rel => exact ⟨i + (got + 1), by go_num, by omega, by
            intro p h3 h4 h5
            by_cases h6 : p < i
            · exact hno.out p h6 h4 h5
            · have := @runN_block B n p (i + got) k (hend.out (by omega)) (by omega); omega, (hu.trans hu1 fun _ _ h => h).trans hu2 fun _ _ h => h⟩
          case measure => simp [intOf]; omega
    · have hin' : ¬ (i : Int) < n := by omega
      have hf : Hid (findN B n k = none) := findN_none fun j hj => hno j (by omega) hj
      clear hno
      go_wp2_with fail
      go_ret2
      exact ⟨by rw [hf.out]; rfl, hu⟩
end Go.Proofs.Ytfjcjppfihafgaa
