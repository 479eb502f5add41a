/- The walk over AllocBack. -/
import Derived.Test.YteeppclnmjlcbaaAllocApartW
namespace Go.Proofs.Yteeppclnmjlcbaa
open Go.RowKit Go.Amb
set_option linter.unusedVariables false

theorem giveV_one {A n p : Nat} (h : p < n) : giveV A n (p : Int) 1 = if A.testBit p then (0, putN A p false) else (7, A) := by
  unfold giveV
  rw [if_neg (by decide), if_neg (by omega)]
  show (if allN A p 1 then (0, setN A p 1 false) else (7, A)) = _
  have e1 : allN A p 1 = A.testBit p := by simp [allN]
  rw [e1]; rfl
/-- Besides some pages all is as it was. -/
def Kept (B i m A : Nat) : Prop := ∀ p, ¬ (i ≤ p ∧ p < i + m) → A.testBit p = B.testBit p
theorem Kept.give {B i m A n p : Nat} (h : Kept B i m A) (hp : i ≤ p ∧ p < i + m) (hn : p < n) : Kept B i m (giveV A n (p : Int) 1).2 := by
  rw [giveV_one hn]
  intro q hq
  by_cases hb : A.testBit p = true
  · rw [if_pos hb]
    show (putN A p false).testBit q = _
    rw [putN_bit, if_neg (by omega)]
    exact h q hq
  · rw [if_neg hb]; exact h q hq
set_option maxHeartbeats 8000000 in
theorem lAllocBack (v : Value) (l : List Act3) (k : Int) (vo : Value) (zs : List Int) (w : World) (hP : Acts w v l) (hok : ∀ x ∈ l, okAct x) (hl : l.length < 9223372036854775808) (hk : k < 9223372036854775808)
    (hZ : Has w 1 vo zs.length (zs.map (Value.int .i64))) : Calls Try.prog 4 #[v, .int .i64 k, vo] w (Ret (.bool true) w) := by
  have hbg := Lib.hid (lBegun v l w hP hok hl)
  obtain ⟨hzl, az, cz, rfl, hz1, hz2, hz3⟩ := hZ
  replace hz3 := Lib.hid hz3
  clear hP hok hl hzl hz1 hz2
  replace hk := Lib.hid hk
  go_enter Try.func4, Try.ntmps4
  go_wp2_with fail
  refine hbg.out.mono ?_
  rintro e w1 ⟨r, g, B, rfl, hO⟩
  go_wp2_with fail
  refine (aRows r g 100 B _ hO.at_).mono ?_
  rintro e w2 ⟨vr, rfl, hR, hu2, hf⟩
  have hO2 := hO.non hu2
  have hRg : ∀ q, At vr q → ¬ q = g := fun q hq e => by have := (hf q hq).1; have := hO.at_.live.2; omega
  obtain ⟨ar, cr, hvr, -⟩ := rows_at hR
  subst hvr
  replace hRg := Lib.hid hRg
  replace hR := Lib.hid hR
  clear hf hu2 hO
  go_wp2_with fail
  refine (oTake hO2 k hk.out).mono ?_
  rintro e w3 ⟨rfl, hO3, hu3⟩
  have hR3 := Lib.hid (hR.out.upd hu3 hRg.out)
  have hlen := Lib.hid (rowsN_length B 100)
  have hbits := Lib.hid hO2.at_.bits
  clear hu3 hO2 hR
  rcases take_cases B 100 k with ⟨c1, c2, c3⟩ | ⟨i, m, rfl, hm, him, hT, hfree⟩
  · rw [c2] at hO3
    generalize hq : (takeV B 100 k).1 = q1 at *
    generalize hq2 : (takeV B 100 k).2.1 = q2 at *
    have c4 : (q2 != 0) = true := by simpa using c1
    have c5 : ¬ q2 = 0 := c1
    clear hq hq2 c2 c3 c1
    go_wp2_with fail
    refine (aRows r g 100 B _ hO3.at_).mono ?_
    rintro e w4 ⟨va, rfl, hS, hu4, hf4⟩
    have hO4 := hO3.non hu4
    have hR4 := Lib.hid (hR3.out.non hu4)
    obtain ⟨aa, ca, hva, -⟩ := rows_at hS
    subst hva
    replace hS := Lib.hid hS
    clear hf4 hu4 hO3 hR3
    go_wp2_with fail
    refine (refSame _ _ _ _ _ hS.out hR4.out (by have := hlen.out; omega)).mono ?_
    rintro e w6 ⟨rfl, hu6⟩
    rw [show decide (rowsN B 100 = rowsN B 100) = true by simp]
    have hU6 := (hO4.non hu6).upd
    clear hR4 hS hu6 hO4
    go_wp2_with fail
    refine (lives07 _).mono ?_
    rintro e w7 ⟨rfl, u7⟩
    have t := hU6.trans u7 fun _ _ h => h
    go_wp2_with fail
    go_ret
    exact ⟨rfl, t⟩
  · clear hk
    rw [hT] at hO3 ⊢
    have hK3 : Kept B i m (setN B i m true) := fun p hp => by rw [setN_bit, if_neg hp]
    replace hfree := Lib.hid hfree
    replace hK3 := Lib.hid hK3
    generalize setN B i m true = A0 at *
    clear hT
    have hm2 : m ≤ 100 := by omega
    replace hm := Lib.hid hm
    have a2 : ¬ (m : Int) < 1 := by have := hm.out; omega
    have a3 : ¬ (100 : Int) < (m : Int) := by omega
    have a3' : ¬ 100 < m := by omega
    go_wp2_with fail
    go_loopw [11] (fun jv wr => ∃ j A : Nat, jv = .int .i64 (j : Int) ∧ j ≤ zs.length ∧ Ours w wr r g 100 A ∧ Kept B i m A ∧ RowsAt wr (.slice ar (rowsN B 100).length cr) (rowsN B 100)) (fun jv _ => zs.length - (intOf jv).toNat)
    case atStart => exact ⟨0, A0, rfl, by omega, hO3, hK3.out, hR3.out⟩
    case round =>
      obtain ⟨j, A, rfl, hj, hO, hK, hR⟩ := hrel
      clear hO3 hK3 hR3
      replace hK := Lib.hid hK
      replace hR := Lib.hid hR
      by_cases hjz : j < zs.length ∧ j < 200
      · obtain ⟨hjl, hj2⟩ := hjz
        have hjl' : (j : Int) < (zs.length : Int) := by omega
        have hj2' : (j : Int) < 200 := by omega
        have hj0 : (0 : Int) ≤ (j : Int) := by omega
        obtain ⟨gz, oz, rfl, hcz⟩ := hz3.out.resolve_left (by omega)
        have hc := hO.upd.cell (hcz j _ (by rw [List.getElem?_map, List.getElem?_eq_getElem hjl]; rfl)) fun h => h
        clear hcz
        generalize zs[j] = o at *
        obtain ⟨q, hqm, ht0⟩ : ∃ q : Nat, q < m ∧ Hid ((IntKind.u64.wrap o).tmod (m : Int) = (q : Int)) := by
          obtain ⟨U, hU⟩ : ∃ U : Nat, IntKind.u64.wrap o = (U : Int) := ⟨(IntKind.u64.wrap o).toNat, (Int.toNat_of_nonneg (wrap_u64_nonneg o)).symm⟩
          exact ⟨U % m, Nat.mod_lt _ hm.out, by show _ = _; rw [hU, Int.ofNat_tmod]⟩
        have hw1 : wrap64 (q : Int) = (q : Int) := IntWalk.wrap64_in _ ⟨by omega, by omega⟩
        replace hw1 := Lib.hid hw1
        have hw2 : wrap64 ((i : Int) + (q : Int)) = ((i + q : Nat) : Int) := IntWalk.wrap64_in _ ⟨by omega, by omega⟩
        replace hw2 := Lib.hid hw2
        have hw3 : IntKind.i64.wrap ((i : Int) + (q : Int)) = ((i + q : Nat) : Int) := IntWalk.i64_in _ ⟨by omega, by omega⟩
        have hg := Lib.hid (oGive hO ((i + q : Nat) : Int) 1 (by omega) (by omega))
        have hKg := Lib.hid (@Kept.give B i m A 100 (i + q) hK.out (by omega) (by omega))
        replace hw2 := hw2.out
        replace hw1 := hw1.out
        replace ht0 := ht0.out
        generalize hp : i + q = p at *
        replace hp := Lib.hid hp
        go_wp2_with fail
        refine hg.out.mono ?_
        rintro e w4 ⟨rfl, hO4, hu4⟩
        have hR4 := hR.out.upd hu4 hRg.out
        clear hu4 hg
        go_wp2_with fail
        go_roundw
        case rel => exact ⟨j + 1, _, by go_num, by omega, hO4, hKg.out, hR4⟩
        case measure => simp [intOf]; omega
      · have hloop : Hid (j < zs.length → ¬ j < 200) := fun h1 h2 => hjz ⟨h1, h2⟩
        clear hjz
        have fin : ∀ wr', Upd Non wr wr' → True := fun _ _ => trivial
        by_cases hjl : j < zs.length
        · have hj2 : ¬ j < 200 := hloop.out hjl
          have hjl' : (j : Int) < (zs.length : Int) := by omega
          have hj2' : ¬ (j : Int) < 200 := by omega
          clear fin hloop
          go_wp2_with fail
          go_loopw [12] (fun jv wr => ∃ j A : Nat, jv = .int .i64 (j : Int) ∧ j ≤ m ∧ Ours w wr r g 100 A ∧ Kept B i m A ∧ (∀ p, i ≤ p → p < i + j → A.testBit p = false) ∧ RowsAt wr (.slice ar (rowsN B 100).length cr) (rowsN B 100)) (fun jv _ => m - (intOf jv).toNat)
          case atStart => exact ⟨0, A, rfl, by omega, hO, hK.out, fun p h1 h2 => by omega, hR.out⟩
          case round =>
            obtain ⟨d, A2, rfl, hd, hO, hK2, hno, hR2⟩ := hrel
            replace hK2 := Lib.hid hK2
            replace hR2 := Lib.hid hR2
            clear hK hR
            by_cases hdm : d < m
            · have hdm' : (d : Int) < (m : Int) := by omega
              have hw3 : IntKind.i64.wrap ((i : Int) + (d : Int)) = ((i + d : Nat) : Int) := IntWalk.i64_in _ ⟨by omega, by omega⟩
              have hh := Lib.hid (aHasN r g 100 A2 (i + d) _ hO.at_ (by omega))
              have hg := Lib.hid (fun w' (h : Ours w w' r g 100 A2) => oGive h ((i + d : Nat) : Int) 1 (by omega) (by omega))
              have hKg := Lib.hid (@Kept.give B i m A2 100 (i + d) hK2.out (by omega) (by omega))
              have h1 := @giveV_one A2 100 (i + d) (by omega)
              generalize hp : i + d = p at *
              replace hp := Lib.hid hp
              cases hb : A2.testBit p with
              | false =>
                rw [hb] at hh
                clear h1 hg hKg
                have hno2 : ∀ q, i ≤ q → q < i + (d + 1) → A2.testBit q = false := fun q h1 h2 => by
                  by_cases e : q = p
                  · subst e; exact hb
                  · exact hno q h1 (by have := hp.out; omega)
                replace hno2 := Lib.hid hno2
                clear hno hb
                go_wp2_with fail
                refine hh.out.mono ?_
                rintro e w4 ⟨rfl, hu4⟩
                have hO4 := hO.non hu4
                have hR4 := hR2.out.non hu4
                clear hu4 hh
                go_wp2_with fail
                go_roundw
                case rel => exact ⟨d + 1, _, by go_num, by omega, hO4, hK2.out, hno2.out, hR4⟩
                case measure => simp [intOf]; omega
              | true =>
                rw [hb] at hh
                rw [hb, if_pos rfl] at h1
                have hno2 : ∀ q, i ≤ q → q < i + (d + 1) → (putN A2 p false).testBit q = false := fun q h1 h2 => by
                  rw [putN_bit]
                  by_cases e : p = q
                  · rw [if_pos e]
                  · rw [if_neg e]; exact hno q h1 (by have := hp.out; omega)
                replace hno2 := Lib.hid hno2
                rw [h1] at hKg hg
                clear hno hb h1
                generalize putN A2 p false = A3 at *
                go_wp2_with fail
                refine hh.out.mono ?_
                rintro e w4 ⟨rfl, hu4⟩
                have hO4 := hO.non hu4
                have hR4 := Lib.hid (hR2.out.non hu4)
                clear hu4 hh hR2 hO
                go_wp2_with fail
                refine (hg.out _ hO4).mono ?_
                rintro e w5 ⟨rfl, hO5, hu5⟩
                have hR5 := hR4.out.upd hu5 hRg.out
                clear hu5 hR4 hO4 hg
                go_wp2_with fail
                go_roundw
                case rel => exact ⟨d + 1, _, by go_num, by omega, hO5, hKg.out, hno2.out, hR5⟩
                case measure => simp [intOf]; omega
            · obtain rfl : d = m := by omega
              have hdm' : ¬ (d : Int) < (d : Int) := by omega
              have hA : A2 = B := Nat.eq_of_testBit_eq fun p => by
                by_cases hp : i ≤ p ∧ p < i + d
                · rw [hno p hp.1 hp.2]
                  have := hfree.out (p - i) (by omega)
                  rw [show i + (p - i) = p by omega] at this
                  exact this.symm
                · exact hK2.out p hp
              subst hA
              clear hno hK2
              go_wp2_with fail
              refine (aRows r g 100 A2 _ hO.at_).mono ?_
              rintro e w4 ⟨va, rfl, hS, hu4, hf4⟩
              have hO4 := hO.non hu4
              have hR4 := Lib.hid (hR2.out.non hu4)
              obtain ⟨aa, ca, hva, -⟩ := rows_at hS
              subst hva
              replace hS := Lib.hid hS
              clear hf4 hu4 hO hR2
              go_wp2_with fail
              refine (refSame _ _ _ _ _ hS.out hR4.out (by have := hlen.out; omega)).mono ?_
              rintro e w6 ⟨rfl, hu6⟩
              rw [show decide (rowsN A2 100 = rowsN A2 100) = true by simp]
              have hU6 := (hO4.non hu6).upd
              clear hR4 hS hu6 hO4
              go_wp2_with fail
              refine (lives07 _).mono ?_
              rintro e w7 ⟨rfl, u7⟩
              have t := hU6.trans u7 fun _ _ h => h
              go_wp2_with fail
              go_ret
              exact ⟨rfl, t⟩
        · have hjl' : ¬ (j : Int) < (zs.length : Int) := by omega
          clear fin hloop
          go_wp2_with fail
          go_loopw [12] (fun jv wr => ∃ j A : Nat, jv = .int .i64 (j : Int) ∧ j ≤ m ∧ Ours w wr r g 100 A ∧ Kept B i m A ∧ (∀ p, i ≤ p → p < i + j → A.testBit p = false) ∧ RowsAt wr (.slice ar (rowsN B 100).length cr) (rowsN B 100)) (fun jv _ => m - (intOf jv).toNat)
          case atStart => exact ⟨0, A, rfl, by omega, hO, hK.out, fun p h1 h2 => by omega, hR.out⟩
          case round =>
            obtain ⟨d, A2, rfl, hd, hO, hK2, hno, hR2⟩ := hrel
            replace hK2 := Lib.hid hK2
            replace hR2 := Lib.hid hR2
            clear hK hR
            by_cases hdm : d < m
            · have hdm' : (d : Int) < (m : Int) := by omega
              have hw3 : IntKind.i64.wrap ((i : Int) + (d : Int)) = ((i + d : Nat) : Int) := IntWalk.i64_in _ ⟨by omega, by omega⟩
              have hh := Lib.hid (aHasN r g 100 A2 (i + d) _ hO.at_ (by omega))
              have hg := Lib.hid (fun w' (h : Ours w w' r g 100 A2) => oGive h ((i + d : Nat) : Int) 1 (by omega) (by omega))
              have hKg := Lib.hid (@Kept.give B i m A2 100 (i + d) hK2.out (by omega) (by omega))
              have h1 := @giveV_one A2 100 (i + d) (by omega)
              generalize hp : i + d = p at *
              replace hp := Lib.hid hp
              cases hb : A2.testBit p with
              | false =>
                rw [hb] at hh
                clear h1 hg hKg
                have hno2 : ∀ q, i ≤ q → q < i + (d + 1) → A2.testBit q = false := fun q h1 h2 => by
                  by_cases e : q = p
                  · subst e; exact hb
                  · exact hno q h1 (by have := hp.out; omega)
                replace hno2 := Lib.hid hno2
                clear hno hb
                go_wp2_with fail
                refine hh.out.mono ?_
                rintro e w4 ⟨rfl, hu4⟩
                have hO4 := hO.non hu4
                have hR4 := hR2.out.non hu4
                clear hu4 hh
                go_wp2_with fail
                go_roundw
                case rel => exact ⟨d + 1, _, by go_num, by omega, hO4, hK2.out, hno2.out, hR4⟩
                case measure => simp [intOf]; omega
              | true =>
                rw [hb] at hh
                rw [hb, if_pos rfl] at h1
                have hno2 : ∀ q, i ≤ q → q < i + (d + 1) → (putN A2 p false).testBit q = false := fun q h1 h2 => by
                  rw [putN_bit]
                  by_cases e : p = q
                  · rw [if_pos e]
                  · rw [if_neg e]; exact hno q h1 (by have := hp.out; omega)
                replace hno2 := Lib.hid hno2
                rw [h1] at hKg hg
                clear hno hb h1
                generalize putN A2 p false = A3 at *
                go_wp2_with fail
                refine hh.out.mono ?_
                rintro e w4 ⟨rfl, hu4⟩
                have hO4 := hO.non hu4
                have hR4 := Lib.hid (hR2.out.non hu4)
                clear hu4 hh hR2 hO
                go_wp2_with fail
                refine (hg.out _ hO4).mono ?_
                rintro e w5 ⟨rfl, hO5, hu5⟩
                have hR5 := hR4.out.upd hu5 hRg.out
                clear hu5 hR4 hO4 hg
                go_wp2_with fail
                go_roundw
                case rel => exact ⟨d + 1, _, by go_num, by omega, hO5, hKg.out, hno2.out, hR5⟩
                case measure => simp [intOf]; omega
            · obtain rfl : d = m := by omega
              have hdm' : ¬ (d : Int) < (d : Int) := by omega
              have hA : A2 = B := Nat.eq_of_testBit_eq fun p => by
                by_cases hp : i ≤ p ∧ p < i + d
                · rw [hno p hp.1 hp.2]
                  have := hfree.out (p - i) (by omega)
                  rw [show i + (p - i) = p by omega] at this
                  exact this.symm
                · exact hK2.out p hp
              subst hA
              clear hno hK2
              go_wp2_with fail
              refine (aRows r g 100 A2 _ hO.at_).mono ?_
              rintro e w4 ⟨va, rfl, hS, hu4, hf4⟩
              have hO4 := hO.non hu4
              have hR4 := Lib.hid (hR2.out.non hu4)
              obtain ⟨aa, ca, hva, -⟩ := rows_at hS
              subst hva
              replace hS := Lib.hid hS
              clear hf4 hu4 hO hR2
              go_wp2_with fail
              refine (refSame _ _ _ _ _ hS.out hR4.out (by have := hlen.out; omega)).mono ?_
              rintro e w6 ⟨rfl, hu6⟩
              rw [show decide (rowsN A2 100 = rowsN A2 100) = true by simp]
              have hU6 := (hO4.non hu6).upd
              clear hR4 hS hu6 hO4
              go_wp2_with fail
              refine (lives07 _).mono ?_
              rintro e w7 ⟨rfl, u7⟩
              have t := hU6.trans u7 fun _ _ h => h
              go_wp2_with fail
              go_ret
              exact ⟨rfl, t⟩
end Go.Proofs.Yteeppclnmjlcbaa
