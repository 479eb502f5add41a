/- The walk over AllocFirst. -/
import Derived.Test.YteeppclnmjlcbaaAY
namespace Go.Proofs.Yteeppclnmjlcbaa
open Go.RowKit Go.Amb
set_option linter.unusedVariables false

def sumR (l : List (Nat × Nat)) : Nat := (l.map fun p => p.2).sum
theorem popc_free (B : Nat) : ∀ (r i : Nat), (∀ j, j < r → B.testBit (i + j) = false) → popc (i + r) B = popc i B := by
  intro r
  induction r with
  | zero => intro i _; rfl
  | succ r ih =>
    intro i h
    rw [show i + (r + 1) = i + r + 1 by omega, popc_next, ih i fun j hj => h j (by omega), h r (by omega)]
    simp
/-- The rows have all pages that are free. -/
theorem rows_sum {B n : Nat} : ∀ (f i : Nat), n + 1 ≤ i + f → i ≤ n + 1 → sumR (rowsFrom B n f i) + popc n B = n - i + popc (min i n) B := by
  intro f
  induction f with
  | zero =>
    intro i h1 h2
    rw [rowsFrom, show min i n = n by omega, show n - i = 0 by omega]
    simp [sumR]
  | succ f ih =>
    intro i h1 h2
    by_cases hin : i < n
    · have hfr : ∀ j, j < runN B n i n → B.testBit (i + j) = false := fun j hj => (runN_free B n n i j hj).2
      have hpf := popc_free B (runN B n i n) i hfr
      have hfit := @runN_fit B n i n (by omega)
      have hend : ¬ (i + runN B n i n < n ∧ B.testBit (i + runN B n i n) = false) := by
        by_cases hr : runN B n i n < n
        · exact runN_end B n n i hr
        · omega
      have hs : sumR (rowsFrom B n (f + 1) i) = runN B n i n + sumR (rowsFrom B n f (i + runN B n i n + 1)) := by
        rw [rowsFrom, if_pos hin]
        by_cases h0 : runN B n i n = 0
        · rw [if_pos h0, h0]; simp
        · rw [if_neg h0]; simp [sumR]
      have hi := ih (i + runN B n i n + 1) (by omega) (by omega)
      rw [hs]
      generalize runN B n i n = r at *
      generalize sumR (rowsFrom B n f (i + r + 1)) = s at *
      rw [show min i n = i by omega]
      by_cases hlt : i + r < n
      · have hb : B.testBit (i + r) = true := by
          cases hb : B.testBit (i + r) with
          | true => rfl
          | false => exact absurd ⟨hlt, hb⟩ hend
        have hn := popc_next (i + r) B
        rw [hb] at hn
        simp only [if_true] at hn
        rw [show min (i + r + 1) n = i + r + 1 by omega] at hi
        omega
      · have e : i + r = n := by omega
        rw [show min (i + r + 1) n = n by omega] at hi
        rw [e] at hpf
        omega
    · rw [rowsFrom, if_neg hin, show min i n = n by omega, show n - i = 0 by omega]
      simp [sumR]
theorem rowsN_sum (B n : Nat) : sumR (rowsN B n) = n - popc n B := by
  have := @rows_sum B n (n + 1) 0 (by omega) (by omega)
  rw [Nat.sub_zero, Nat.zero_min, show popc 0 B = 0 from rfl] at this
  unfold rowsN
  omega
/-- Where the first row that is long enough begins. -/
def wantI (k : Nat) (l : List (Nat × Nat)) : Int := match l.find? (fun p => decide (k ≤ p.2)) with
  | none => -1
  | some p => (p.1 : Int)
theorem want_step {l : List (Nat × Nat)} {d k : Nat} {p : Nat × Nat} (h : l[d]? = some p) : (k ≤ p.2 → wantI k (l.drop d) = (p.1 : Int)) ∧ (¬ k ≤ p.2 → wantI k (l.drop d) = wantI k (l.drop (d + 1))) ∧ sumR (l.drop d) = p.2 + sumR (l.drop (d + 1)) := by
  obtain ⟨hd, rfl⟩ := List.getElem?_eq_some_iff.1 h
  rw [List.drop_eq_getElem_cons hd]
  refine ⟨fun h => ?_, fun h => ?_, ?_⟩
  · unfold wantI; rw [List.find?_cons, show decide (k ≤ (l[d]).2) = true by simpa using h]
  · unfold wantI; rw [List.find?_cons, show decide (k ≤ (l[d]).2) = false by simpa using h]
  · simp only [sumR, List.map_cons, List.sum_cons]
theorem sum_drop (l : List (Nat × Nat)) : ∀ d, sumR (l.drop d) ≤ sumR l := by
  induction l with
  | nil => intro d; simp
  | cons p l ih =>
    intro d
    cases d with
    | zero => exact Nat.le_refl _
    | succ d => have := ih d; simp [sumR] at this ⊢; omega
attribute [local irreducible] popc
set_option maxHeartbeats 4000000 in
theorem lAllocFirst (v : Value) (l : List Act3) (k : Int) (w : World) (hP : Acts w v l) (hok : ∀ x ∈ l, okAct x) (hl : l.length < 9223372036854775808) (hk : k < 9223372036854775808) : Calls Try.prog 3 #[v, .int .i64 k] w (Ret (.bool true) w) := by
  have hbg := Lib.hid (lBegun v l w hP hok hl)
  clear hP hok hl
  by_cases h1 : k < 1
  · clear hk
    go_enter Try.func3, Try.ntmps3
    go_wp2_with fail
    refine hbg.out.mono ?_
    rintro e w1 ⟨r, g, B, rfl, hO⟩
    have hU := hO.upd
    clear hO
    go_wp2_with fail
    refine (lives07 _).mono ?_
    rintro e w2 ⟨rfl, u2⟩
    have t := hU.trans u2 fun _ _ h => h
    go_wp2_with fail
    go_ret
    exact ⟨rfl, t⟩
  · obtain ⟨m, hm⟩ := Int.eq_ofNat_of_zero_le (show 0 ≤ k by omega)
    have hm0 : Hid (0 < m) := by show _ < _; omega
    replace hm := Lib.hid hm
    have hm2 := Lib.hid hk
    clear hk
    go_enter Try.func3, Try.ntmps3
    go_wp2_with fail
    refine hbg.out.mono ?_
    rintro e w1 ⟨r, g, B, rfl, hO⟩
    go_wp2_with fail
    refine (aRows r g 100 B _ hO.at_).mono ?_
    rintro e w2 ⟨vr, rfl, hR, hu2, hf⟩
    have hO2 := hO.non hu2
    obtain ⟨ar, cr, hvr, _, _, hat⟩ := rows_at hR
    subst hvr
    have hlen := rowsN_length B 100
    have hsum := rowsN_sum B 100
    have hfind := rowsN_find (B := B) (n := 100) hm0.out
    replace hat := Lib.hid hat
    replace hfind := Lib.hid hfind
    replace hsum := Lib.hid hsum
    clear hR hf hu2 hO
    have hq := sum_drop (rowsN B 100)
    have hpl := popc_le 100 B
    generalize hRR : rowsN B 100 = R at *
    replace hRR := Lib.hid hRR
    replace hq := Lib.hid hq
    replace hsum := Lib.hid hsum
    have hw1 : IntKind.i64.wrap ((R.length : Int) - 1) = (R.length : Int) - 1 := IntWalk.i64_in _ ⟨by omega, by omega⟩
    go_wp2_with fail
    have hcase : Hid ((wantI m R = -1 ∧ takeV B 100 k = (0, 10, B)) ∨ ∃ (i B' : Nat), wantI m R = (i : Int) ∧ takeV B 100 k = ((i : Int), 0, B')) := by
      have hT : takeV B 100 (m : Int) = match findN B 100 m with | none => (0, 10, B) | some i => ((i : Int), 0, setN B i m true) := if_neg (by have := hm0.out; omega)
      show _ ∨ _
      rw [hm.out, hT]
      have hf := hfind.out
      unfold wantI
      cases hx : findN B 100 m with
      | none => rw [hx] at hf; rw [show List.find? _ R = none from hf]; exact .inl ⟨rfl, rfl⟩
      | some i => rw [hx] at hf; rw [show List.find? _ R = some _ from hf]; exact .inr ⟨i, _, rfl, rfl⟩
    clear hfind
    go_loopw [7, 8, 9] (fun av fv jv wr => ∃ (j : Int) (d : Nat), jv = .int .i64 j ∧ j + 1 = (d : Int) ∧ d ≤ R.length ∧ av = .int .i64 (wantI m (R.drop d)) ∧ fv = .int .i64 ((sumR (R.drop d) : Nat) : Int) ∧ wr = w2) (fun _ _ jv _ => (intOf jv + 1).toNat)
    case atStart => exact ⟨_, R.length, rfl, by omega, Nat.le_refl _, by simp [wantI], by simp [sumR], rfl⟩
    case round =>
      obtain ⟨j, d, rfl, hjd, hd, rfl, rfl, rfl⟩ := hrel
      cases d with
      | zero =>
        obtain rfl : j = -1 := by omega
        rw [List.drop_zero, hsum.out.out]
        clear hsum hq
        rcases hcase.out with ⟨hw, hT⟩ | ⟨i, B', hw, hT⟩
        · rw [hw]
          clear hcase hw
          have hfr := Lib.hid (aFree r g 100 B wr hO2.at_)
          generalize 100 - popc 100 B = N at *
          go_wp2_with fail
          refine hfr.out.mono ?_
          rintro e w3 ⟨rfl, hu3⟩
          have hO3 := hO2.non hu3
          go_wp2_with fail
          refine (oTake hO3 k (by have := hm2.out; omega)).mono ?_
          rintro e w4 ⟨rfl, hO4, -⟩
          rw [hT] at hO4 ⊢
          have hU4 := hO4.upd
          clear hO2 hO3 hO4 hu3 hT hfr
          go_wp2_with fail
          refine (lives07 _).mono ?_
          rintro e w5 ⟨rfl, u5⟩
          have t := hU4.trans u5 fun _ _ h => h
          clear u5 hU4
          go_wp2_with fail
          go_ret
          exact ⟨rfl, t⟩
        · rw [hw]
          clear hcase hw
          have hi0 : (0 : Int) ≤ (i : Int) := by omega
          have hfr := Lib.hid (aFree r g 100 B wr hO2.at_)
          generalize 100 - popc 100 B = N at *
          go_wp2_with fail
          refine hfr.out.mono ?_
          rintro e w3 ⟨rfl, hu3⟩
          have hO3 := hO2.non hu3
          go_wp2_with fail
          refine (oTake hO3 k (by have := hm2.out; omega)).mono ?_
          rintro e w4 ⟨rfl, hO4, -⟩
          rw [hT] at hO4 ⊢
          have hU4 := hO4.upd
          clear hO2 hO3 hO4 hu3 hT hfr
          go_wp2_with fail
          refine (lives07 _).mono ?_
          rintro e w5 ⟨rfl, u5⟩
          have t := hU4.trans u5 fun _ _ h => h
          clear u5 hU4
          go_wp2_with fail
          go_ret
          exact ⟨rfl, t⟩
      | succ d =>
        obtain rfl : j = (d : Int) := by omega
        obtain ⟨gr, off, p, rfl, hp, x1, x2⟩ := hat.out d (by omega)
        obtain ⟨s1, s2, s3⟩ := want_step (k := m) hp
        have hge : (0 : Int) ≤ (d : Int) := by omega
        have hdl : (d : Int) < (R.length : Int) := by omega
        have hq1 := hq.out d
        have hq2 := hq.out (d + 1)
        have hs4 : sumR R ≤ 100 := by have := hsum.out.out; omega
        have hadd : IntKind.i64.wrap (((sumR (R.drop (d + 1)) : Nat) : Int) + (p.2 : Int)) = ((sumR (R.drop d) : Nat) : Int) := by
          rw [show ((sumR (R.drop (d + 1)) : Nat) : Int) + (p.2 : Int) = ((sumR (R.drop d) : Nat) : Int) by omega]
          exact IntWalk.i64_in _ ⟨by omega, by omega⟩
        clear s3 hp hq1 hq2 hs4
        generalize sumR (R.drop (d + 1)) = f1 at *
        generalize hf0 : sumR (R.drop d) = f0 at *
        replace hf0 := Lib.hid hf0
        by_cases hkp : m ≤ p.2
        · have hkp' : k ≤ (p.2 : Int) := by have := hm.out; omega
          have s1 := Lib.hid (s1 hkp)
          clear s2 hkp
          generalize wantI m (R.drop (d + 1)) = g1 at *
          go_wp2_with fail
          go_roundw
          case rel => exact ⟨_, d, rfl, by omega, by omega, by rw [s1.out], by rw [hf0.out], by simp⟩
          case measure => simp [intOf]
        · have hkp' : ¬ k ≤ (p.2 : Int) := by have := hm.out; omega
          have s2 := Lib.hid (s2 hkp)
          clear s1 hkp
          rw [← s2.out]
          generalize hg1 : wantI m (R.drop d) = g1 at *
          replace hg1 := Lib.hid hg1
          clear s2
          go_wp2_with fail
          go_roundw
          case rel => exact ⟨_, d, rfl, by omega, by omega, by rw [hg1.out], by rw [hf0.out], by simp⟩
          case measure => simp [intOf]
end Go.Proofs.Yteeppclnmjlcbaa
