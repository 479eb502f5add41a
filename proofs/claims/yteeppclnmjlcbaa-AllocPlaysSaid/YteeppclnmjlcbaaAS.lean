/- The walks over the reference of package alloc: Free, Rows. -/
import Derived.Test.YteeppclnmjlcbaaAR
namespace Go.Proofs.Yteeppclnmjlcbaa
open Go.RowKit Go.Amb
set_option linter.unusedVariables false
theorem popc_next (i B : Nat) : popc (i + 1) B = popc i B + (if B.testBit i then 1 else 0) := by
  rw [popc_add i 1]
  congr 1
  have e : popc 1 (B / 2 ^ i) = B / 2 ^ i % 2 := by simp [popc]
  rw [e, Nat.testBit_eq_decide_div_mod_eq]
  by_cases h : B / 2 ^ i % 2 = 1
  · simp [h]
  · simp [h]; omega
attribute [local irreducible] popc
set_option maxHeartbeats 1000000 in
theorem refFree (v : Value) (n B : Nat) (w : World) (h : Pages w v B n) (hn : 1 ≤ n ∧ n ≤ 16384) : Calls Try.prog 19 #[.agg #[v]] w (Ret (.int .i64 ((n - popc n B : Nat) : Int)) w) := by
  obtain ⟨a, c, rfl, hnc, hcm, hcell⟩ := pages_at h
  replace hcell := Lib.hid hcell
  clear h
  go_enter Try.func19, Try.ntmps19
  go_wp2_with fail
  go_loopw [3, 4] (fun kv iv wr => ∃ i : Nat, iv = .int .i64 (i : Int) ∧ i ≤ n ∧ kv = .int .i64 ((i - popc i B : Nat) : Int) ∧ Upd Non (w.alloc (.cells #[.slice a n c] 44)) wr) (fun _ iv _ => n - (intOf iv).toNat)
  case atStart => exact ⟨0, rfl, by omega, by simp, Upd.refl _ _⟩
  case round =>
    obtain ⟨i, rfl, hi, rfl, hu⟩ := hrel
    obtain ⟨k1, k2, k3, hU⟩ := hu.own1 (fun _ h => h.elim)
    have c0 := k1 0
    by_cases hin : i < n
    · obtain ⟨g, off, rfl, hc⟩ := hcell.out i hin
      have hc2 := hU.cell hc fun h => h
      have hle := popc_le i B
      have hst := popc_next i B
      have hin' : (i : Int) < (n : Int) := by omega
      have hi0 : (0 : Int) ≤ (i : Int) := by omega
      clear hc k1 k2
      generalize popc i B = q at *
      cases hb : B.testBit i with
      | true =>
        rw [hb] at hst hc2
        simp only [if_true] at hst
        have hm : i + 1 - popc (i + 1) B = i - q := by omega
        replace hst := Lib.hid hst
        replace hm := Lib.hid hm
        go_wp2_with fail
        go_roundw
        case rel => exact ⟨i + 1, by go_num, by omega, by rw [hm.out], hu⟩
        case measure => simp [intOf]; omega
      | false =>
        rw [hb] at hst hc2
        simp only [Bool.false_eq_true, if_false, Nat.add_zero] at hst
        have hm : i + 1 - popc (i + 1) B = i - q + 1 := by omega
        replace hst := Lib.hid hst
        replace hm := Lib.hid hm
        have hz : i - q ≤ 16384 := by omega
        generalize i - q = z at *
        go_wp2_with fail
        go_roundw
        case rel => exact ⟨i + 1, by go_num, by omega, by rw [hm.out]; go_num, hu⟩
        case measure => simp [intOf]; omega
    · obtain rfl : i = n := by omega
      have hin' : ¬ (i : Int) < (i : Int) := by omega
      go_wp2_with fail
      go_ret
      exact ⟨rfl, hU⟩
theorem run_exact {B n : Nat} : ∀ (c s m : Nat), c ≤ m → s + c ≤ n → (∀ p, s ≤ p → p < s + c → B.testBit p = false) → ¬ (s + c < n ∧ B.testBit (s + c) = false) → runN B n s m = c := by
  intro c
  induction c with
  | zero => intro s m _ _ _ he; exact runN_stop he
  | succ c ih =>
    intro s m hm hn hf he
    rw [runN_go (by omega) (by omega) (hf s (by omega) (by omega)), ih (s + 1) (m - 1) (by omega) (by omega) (fun p h1 h2 => hf p (by omega) (by omega)) (by rw [show s + 1 + c = s + (c + 1) by omega]; exact he)]
theorem rowsFrom_end {B n i : Nat} (h : n ≤ i) (f : Nat) : rowsFrom B n f i = [] := by
  cases f with
  | zero => rfl
  | succ f => rw [rowsFrom, if_neg (by omega)]
/-- The row that is being counted. -/
def tailR (s c : Nat) : List (Nat × Nat) := if c = 0 then [] else [(s, c)]
theorem rows_close {B n f s c : Nat} (hc : s + c ≤ n) (hf : n + 1 ≤ s + f) (hfr : ∀ p, s ≤ p → p < s + c → B.testBit p = false) (he : ¬ (s + c < n ∧ B.testBit (s + c) = false)) :
    rowsFrom B n f s = tailR s c ++ rowsFrom B n (f - 1) (s + c + 1) := by
  obtain ⟨f', rfl⟩ : ∃ f', f = f' + 1 := ⟨f - 1, by omega⟩
  have hr := run_exact c s n (by omega) hc hfr he
  unfold tailR
  by_cases hsn : s < n
  · rw [rowsFrom, if_pos hsn, hr]
    by_cases h0 : c = 0
    · subst h0; simp
    · rw [if_neg h0, if_neg h0]; rfl
  · have h0 : c = 0 := by omega
    subst h0
    rw [rowsFrom_end (by omega), rowsFrom_end (by omega)]; rfl
theorem rc_set (l : List (Nat × Nat)) (s c c' : Nat) : (rc (l ++ [(s, c)])).set (l.length * 2 + 1) (.int .i64 (c' : Int)) = rc (l ++ [(s, c')]) := by
  rw [rc_append, rc_append, List.set_append, rc_length, if_neg (by omega)]
  congr 1
  rw [show l.length * 2 + 1 - l.length * 2 = 1 by omega]
  rfl
theorem own_form {w : World} {base : Nat} {e : TypeId} {size : Nat} {v : Value} {m : Nat} {xs : List Value} (h : w.ownsRow base e size v m xs) (hm : 0 < m) : ∃ g cap, v = .slice (some ⟨g, 0, none⟩) m cap ∧ base ≤ g ∧ g < w.heap.size ∧ m ≤ cap := by
  rcases h.2 with ⟨rfl, h1⟩ | ⟨g, cap, cur, rfl, hb, hg, hnc, _⟩
  · omega
  · exact ⟨g, cap, rfl, hb, heap_lt hg, hnc⟩
abbrev OwnR1 (w0 w : World) (v : Value) (l : List (Nat × Nat)) : Prop := w.ownsRow (w0.heap.size + 1) 28 2 v l.length (rc l)
set_option maxHeartbeats 4000000 in
theorem refRows (v : Value) (n B : Nat) (w : World) (h : Pages w v B n) (hn : 1 ≤ n ∧ n ≤ 16384) : Calls Try.prog 20 #[.agg #[v]] w (Rowed (rowsN B n) w) := by
  obtain ⟨a, ca, rfl, hnc, hcm, hcell⟩ := pages_at h
  have hi2 := Lib.hid (@info_row)
  replace hcell := Lib.hid hcell
  clear h
  go_enter Try.func20, Try.ntmps20
  go_wp2_with fail
  go_loopw [3, 4, 5] (fun ov cv iv wr => ∃ (i c f : Nat) (xs : List (Nat × Nat)), iv = .int .i64 (i : Int) ∧ i ≤ n ∧ cv = .int .i64 (c : Int) ∧ c ≤ i ∧ n + 1 ≤ (i - c) + f ∧ xs.length + c ≤ i ∧ OwnR1 w wr ov (xs ++ tailR (i - c) c) ∧ xs ++ rowsFrom B n f (i - c) = rowsN B n ∧ (∀ p, i - c ≤ p → p < i → B.testBit p = false) ∧ Upd Non (w.alloc (.cells #[.slice a n ca] 44)) wr) (fun _ _ iv _ => n - (intOf iv).toNat)
  case atStart => exact ⟨0, 0, n + 1, [], rfl, by omega, rfl, by omega, by omega, by simp, World.ownsRow_nil _ _ _ _, rfl, fun p h1 h2 => by omega, Upd.refl _ _⟩
  case round =>
    obtain ⟨i, c, f, xs, rfl, hi, rfl, hci, hf, hxi, ho, hrow, hfr, hu⟩ := hrel
    obtain ⟨k1, k2, k3, hU⟩ := hu.own1 (fun _ h => h.elim)
    have c0 := k1 0
    clear k1 k2
    by_cases hin : i < n
    · obtain ⟨g, off, rfl, hc⟩ := hcell.out i hin
      have hc2 := hU.cell hc fun h => h
      clear hc
      have hin' : (i : Int) < (n : Int) := by omega
      have hi0 : (0 : Int) ≤ (i : Int) := by omega
      cases hb : B.testBit i with
      | true =>
        rw [hb] at hc2
        have hcl := @rows_close B n f (i - c) c (by omega) hf (fun p h1 h2 => hfr p h1 (by omega)) (by rw [show i - c + c = i by omega, hb]; simp)
        rw [hcl, ← List.append_assoc, show i - c + c + 1 = i + 1 by omega] at hrow
        have hlt : (xs ++ tailR (i - c) c).length ≤ i + 1 := by unfold tailR; split <;> simp <;> omega
        generalize xs ++ tailR (i - c) c = ys at *
        replace hrow := Lib.hid hrow
        clear hcl hfr
        go_wp2_with fail
        go_roundw
        case rel => exact ⟨i + 1, 0, f - 1, ys, by go_num, by omega, rfl, by omega, by omega, by omega, by simpa [tailR] using ho, hrow.out, fun p h1 h2 => by omega, hu⟩
        case measure => simp [intOf]; omega
      | false =>
        rw [hb] at hc2
        have hfr2 : ∀ p, i - c ≤ p → p < i + 1 → B.testBit p = false := fun p h1 h2 => by
          by_cases e : p = i
          · subst e; exact hb
          · exact hfr p h1 (by omega)
        have hrow2 := hrow
        rw [show i - c = i + 1 - (c + 1) by omega] at hrow2 hfr2
        clear hfr
        replace hrow := Lib.hid hrow
        replace hrow2 := Lib.hid hrow2
        replace hfr2 := Lib.hid hfr2
        by_cases h0 : c = 0
        · subst h0
          have e0 : xs ++ tailR (i - 0) 0 = xs := by simp [tailR]
          rw [e0] at ho
          have hz : w.heap.size + 1 ≤ wr.heap.size := k3
          go_wp2_with (at_builtin; go_must (refine wpList_app1n rfl _ _ 26 rfl (w.heap.size + 1) 28 (.agg #[.int .i64 0, .int .i64 0]) 2 16 Try.underlying26 hi2.out rfl _ _ _ rfl ho [.int .i64 (i : Int), .int .i64 0] wr.heap.size rfl rfl rfl (rc_one [(i, 0)]) (by unfold maxLen; omega) (by omega) hz ?_))
          intro v3 w3 ho3 hu3 hf3
          have ho3 : OwnR1 w w3 v3 (xs ++ [(i, 0)]) := own_rows (l' := [(i, 0)]) ho3 rfl
          have hu4 : Upd Non (w.alloc (.cells #[.slice (some ⟨g, off, none⟩) n ca] 44)) w3 :=
            hu.trans hu3 fun j hj h => by have := own_ge ho h; simp at hj; omega
          obtain ⟨g3, cap3, rfl, q1, q2, q3⟩ := own_form ho3 (by simp)
          have hset := Lib.hid (own_set ho3 (xs.length * 2 + 1) (by rw [rc_length]; simp; omega) (.int .i64 ((1 : Nat) : Int)))
          rw [rc_set] at hset
          obtain ⟨e1, e2⟩ := own_free ho3 (xs.length * 2 + 1) (by rw [rc_length]; simp; omega)
          generalize (rc (xs ++ [(i, 0)]))[xs.length * 2 + 1]'_ = old at *
          go_wp2_with fail
          go_roundw
          case rel => exact ⟨i + 1, 1, f, xs, by go_num, by omega, rfl, by omega, by omega, by omega, by
            rw [show i + 1 - 1 = i by omega]
            have := hset.out
            simpa [tailR, OwnR1] using this, by rw [← hrow.out]; rfl, fun p h1 h2 => hfr2.out p (by omega) h2, hu4.then_setCell (fun h => by simp at h; omega) _⟩
          case measure => simp [intOf]; omega
        · have e0 : xs ++ tailR (i - c) c = xs ++ [(i - c, c)] := by simp [tailR, h0]
          rw [e0] at ho
          obtain ⟨g3, cap3, rfl, q1, q2, q3⟩ := own_form ho (by simp)
          have hset := Lib.hid (own_set ho (xs.length * 2 + 1) (by rw [rc_length]; simp; omega) (.int .i64 ((c + 1 : Nat) : Int)))
          rw [rc_set] at hset
          obtain ⟨e1, e2⟩ := own_free ho (xs.length * 2 + 1) (by rw [rc_length]; simp; omega)
          generalize (rc (xs ++ [(i - c, c)]))[xs.length * 2 + 1]'_ = old at *
          have hne : ((c : Int) + 1 == 1) = false := by simp only [beq_eq_false_iff_ne, ne_eq]; omega
          have hne2 : ¬ c = 0 := h0
          go_wp2_with fail
          go_roundw
          case rel => exact ⟨i + 1, c + 1, f, xs, by go_num, by omega, by go_num, by omega, by omega, by omega, by
            have := hset.out
            rw [show i - c = i + 1 - (c + 1) by omega] at this
            simpa [tailR, OwnR1] using this, hrow2.out, hfr2.out, hu.then_setCell (fun h => by simp at h; omega) _⟩
          case measure => simp [intOf]; omega
    · obtain rfl : i = n := by omega
      have hin' : ¬ (i : Int) < (i : Int) := by omega
      have hcl := @rows_close B i f (i - c) c (by omega) hf (fun p h1 h2 => hfr p h1 (by omega)) (by rw [show i - c + c = i by omega]; simp)
      rw [rowsFrom_end (i := i - c + c + 1) (by omega), List.append_nil] at hcl
      have hres : Hid (rowsN B i = xs ++ tailR (i - c) c) := by show _ = _; rw [← hrow, hcl]
      clear hcl hrow hfr
      go_wp2_with fail
      go_ret
      exact ⟨_, rfl, by rw [hres.out]; exact has_of_owns ho, hU, fun k hk => ⟨by have := own_ge ho hk; omega, own_lt ho hk⟩⟩
end Go.Proofs.Yteeppclnmjlcbaa
