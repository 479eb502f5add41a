/- The walk over AllocApart. -/
import Derived.Test.YteeppclnmjlcbaaAllocFirstW
namespace Go.Proofs.Yteeppclnmjlcbaa
open Go.RowKit Go.Amb
set_option linter.unusedVariables false

theorem AllocAt.upd {S : Nat → Prop} {w w' : World} {r g n B : Nat} (h : AllocAt w r g n B) (hu : Upd S w w') (hr : ¬ S r) (hg : ¬ S g) : AllocAt w' r g n B :=
  ⟨h.pos, h.most, h.bits, h.apart, hu.cell h.size hr, by
    obtain ⟨c, h1, h2, h3⟩ := h.cap
    exact ⟨c, h1, h2, hu.cell h3 hr⟩, fun j hj => ⟨hu.cell (h.word j hj).1 hg, (World.frozen?_of_block (a := ⟨g, j, none⟩) (hu.block g h.live.2 hg)).trans (h.word j hj).2⟩, by have := hu.size; have := h.live; omega⟩
theorem Ours.beside {w0 w w' : World} {r g n B q : Nat} (h : Ours w0 w r g n B) (hu : Upd (fun j => j = q) w w') (hq : w0.heap.size ≤ q) (h1 : r ≠ q) (h2 : g ≠ q) : Ours w0 w' r g n B :=
  ⟨h.at_.upd hu h1 h2, h.upd.trans hu fun j hj e => by omega, h.own, h.own'⟩
theorem aHasN (r g n B i : Nat) (w : World) (h : AllocAt w r g n B) (hi : i < n) : Calls Try.prog 15 #[.pointer (some ⟨r, 0, none⟩), .int .i64 (i : Int)] w (Ret (.bool (B.testBit i)) w) := by
  have := aHas r g n B (i : Int) w h
  rwa [show decide (0 ≤ (i : Int) ∧ (i : Int) < n) = true by simp; omega, Bool.true_and, Int.toNat_natCast] at this
theorem setN_bit (b : Bool) : ∀ (k B i p : Nat), (setN B i k b).testBit p = if i ≤ p ∧ p < i + k then b else B.testBit p := by
  intro k
  induction k with
  | zero => intro B i p; rw [if_neg (by omega)]; rfl
  | succ k ih =>
    intro B i p
    show (setN (putN B i b) (i + 1) k b).testBit p = _
    rw [ih, putN_bit]
    by_cases h1 : i = p
    · subst h1; rw [if_neg (by omega), if_pos rfl, if_pos (by omega)]
    · by_cases h2 : i + 1 ≤ p ∧ p < i + 1 + k
      · rw [if_pos h2, if_pos (by omega)]
      · rw [if_neg h2, if_neg h1, if_neg (by omega)]
theorem popc_congr {A B : Nat} : ∀ n, (∀ j, j < n → A.testBit j = B.testBit j) → popc n A = popc n B := by
  intro n
  induction n with
  | zero => intro _; rfl
  | succ n ih => intro h; rw [popc_next, popc_next, ih fun j hj => h j (by omega), h n (by omega)]
theorem popc_put {B i : Nat} (hb : B.testBit i = false) : ∀ n, i < n → popc n (putN B i true) = popc n B + 1 := by
  intro n
  induction n with
  | zero => intro h; omega
  | succ n ih =>
    intro h
    rw [popc_next, popc_next, putN_bit]
    by_cases e : i = n
    · subst e
      rw [if_pos rfl, hb, popc_congr (A := putN B i true) (B := B) i fun j hj => by rw [putN_bit, if_neg (by omega)]]
      simp
    · rw [if_neg e, ih (by omega)]; omega
theorem popc_set : ∀ (k B i n : Nat), i + k ≤ n → (∀ j, j < k → B.testBit (i + j) = false) → popc n (setN B i k true) = popc n B + k := by
  intro k
  induction k with
  | zero => intro B i n _ _; rfl
  | succ k ih =>
    intro B i n hn hf
    show popc n (setN (putN B i true) (i + 1) k true) = _
    rw [ih (putN B i true) (i + 1) n (by omega) (fun j hj => by rw [putN_bit, if_neg (by omega), show i + 1 + j = i + (j + 1) by omega]; exact hf (j + 1) (by omega)), popc_put (by have := hf 0 (by omega); rwa [Nat.add_zero] at this) n (by omega)]
    omega
/-- What Take does to an alloc of so many pages. -/
theorem take_cases (B n : Nat) (k : Int) : ((takeV B n k).2.1 ≠ 0 ∧ (takeV B n k).2.2 = B ∧ ((takeV B n k).2.1 = 2 ∨ (takeV B n k).2.1 = 10)) ∨ ∃ i m : Nat, k = (m : Int) ∧ 0 < m ∧ i + m ≤ n ∧ takeV B n k = ((i : Int), 0, setN B i m true) ∧ (∀ j, j < m → B.testBit (i + j) = false) := by
  unfold takeV
  by_cases h1 : k < 1
  · rw [if_pos h1]; exact .inl ⟨by simp, rfl, .inl rfl⟩
  · rw [if_neg h1]
    obtain ⟨m, rfl⟩ := Int.eq_ofNat_of_zero_le (show 0 ≤ k by omega)
    rw [Int.toNat_natCast]
    have hm : 0 < m := by omega
    cases hx : findN B n m with
    | none => exact .inl ⟨by simp, rfl, .inr rfl⟩
    | some i =>
      obtain ⟨h2, h3⟩ := findN_fits hm hx
      exact .inr ⟨i, m, rfl, hm, h2, rfl, fun j hj => (runN_free B n m i j (by omega)).2⟩
attribute [local irreducible] popc
set_option maxHeartbeats 4000000 in
theorem lAllocApart (v : Value) (l : List Act3) (k : Int) (w : World) (hP : Acts w v l) (hok : ∀ x ∈ l, okAct x) (hl : l.length < 9223372036854775808) (hk : k < 9223372036854775808) : Calls Try.prog 6 #[v, .int .i64 k] w (Ret (.bool true) w) := by
  have hbg := Lib.hid (lBegun v l w hP hok hl)
  clear hP hok hl
  replace hk := Lib.hid hk
  go_enter Try.func6, Try.ntmps6
  go_wp2_with fail
  refine hbg.out.mono ?_
  rintro e w1 ⟨r, g, B, rfl, hO⟩
  go_wp2_with fail
  refine (aCopy r g 100 B _ hO.at_).mono ?_
  rintro e w2 ⟨r', g', rfl, hA, hu, hr, hg⟩
  have hO2 := hO.non hu
  have s1 := hO.upd.size
  have hB2 : Ours w w2 r' g' 100 B := ⟨hA, hO2.upd, by omega, by omega⟩
  have n1 : Hid (r' ≠ g) := by have := hO.at_.live.2; show _ ≠ _; omega
  have n2 : Hid (g' ≠ g) := by have := hO.at_.live.2; show _ ≠ _; omega
  clear hA hu hO hr hg s1
  go_wp2_with fail
  refine (oTake hO2 k hk.out).mono ?_
  rintro e w3 ⟨rfl, hO3, hu3⟩
  have hB3 := hB2.beside hu3 hO2.own n1.out n2.out
  clear hu3 hO2 hB2
  rcases take_cases B 100 k with ⟨c1, c2, c3⟩ | ⟨i, m, rfl, hm, him, hT, hfree⟩
  · rw [c2] at hO3
    generalize hq : (takeV B 100 k).1 = q1 at *
    generalize hq2 : (takeV B 100 k).2.1 = q2 at *
    clear hq hq2 c2 c3
    go_wp2_with fail
    refine (aRows r g 100 B _ hO3.at_).mono ?_
    rintro e w4 ⟨va, rfl, hR, hu4, hf4⟩
    have hO4 := hO3.non hu4
    have hB4 := hB3.non hu4
    obtain ⟨aa, ca, hva, -⟩ := rows_at hR
    subst hva
    replace hR := Lib.hid hR
    clear hf4 hu4 hO3 hB3
    go_wp2_with fail
    refine (aRows r' g' 100 B _ hB4.at_).mono ?_
    rintro e w5 ⟨vb, rfl, hS, hu5, hf5⟩
    have hR5 := Lib.hid (hR.out.non hu5)
    have hO5 := hO4.non hu5
    obtain ⟨ab, cb, hvb, -⟩ := rows_at hS
    subst hvb
    have hlen := Lib.hid (rowsN_length B 100)
    clear hf5 hu5 hR hB4
    replace hS := Lib.hid hS
    go_wp2_with fail
    refine (refSame _ _ _ _ _ hR5.out hS.out (by have := hlen.out; omega)).mono ?_
    rintro e w6 ⟨rfl, hu6⟩
    rw [show decide (rowsN B 100 = rowsN B 100) = true by simp]
    have hU6 := (hO5.non hu6).upd
    clear hR5 hS hu6 hO4 hO5
    go_wp2_with fail
    refine (lives07 _).mono ?_
    rintro e w7 ⟨rfl, u7⟩
    have t := hU6.trans u7 fun _ _ h => h
    go_wp2_with fail
    go_ret
    exact ⟨rfl, t⟩
  · clear hk
    rw [hT] at hO3 ⊢
    have f1 : Hid (popc 100 (setN B i m true) = popc 100 B + m) := popc_set m B i 100 him hfree
    have f2 : Hid (∀ p, (setN B i m true).testBit p = if i ≤ p ∧ p < i + m then true else B.testBit p) := setN_bit true m B i
    replace hfree := Lib.hid hfree
    generalize setN B i m true = A at *
    clear hT
    replace hm := Lib.hid hm
    have a2 : ¬ (m : Int) < 1 := by have := hm.out; omega
    have a1 : ¬ (i : Int) < 0 := by omega
    have a3 : ¬ (100 : Int) < (m : Int) := by omega
    have a3' : ¬ 100 < m := by omega
    have a4 : IntKind.i64.wrap (100 - (m : Int)) = 100 - (m : Int) := IntWalk.i64_in _ ⟨by omega, by omega⟩
    have a5 : ¬ 100 - (m : Int) < (i : Int) := by omega
    go_wp2_with fail
    go_loopw [9] (fun pv wr => ∃ p : Nat, pv = .int .i64 (p : Int) ∧ p ≤ 100 ∧ Ours w wr r g 100 A ∧ Ours w wr r' g' 100 B) (fun pv _ => 100 - (intOf pv).toNat)
    case atStart => exact ⟨0, rfl, by omega, hO3, hB3⟩
    case round =>
      obtain ⟨p, rfl, hp, hOa, hOb⟩ := hrel
      clear hO3 hB3
      by_cases hlt : p < 100
      · have hlt' : (p : Int) < 100 := by omega
        have hwi : IntKind.i64.wrap ((i : Int) + (m : Int)) = ((i + m : Nat) : Int) := IntWalk.i64_in _ ⟨by omega, by omega⟩
        have hbit := f2.out p
        by_cases hin : i ≤ p ∧ p < i + m
        · rw [if_pos hin] at hbit
          have hbb : B.testBit p = false := by have := hfree.out (p - i) (by omega); rwa [show i + (p - i) = p by omega] at this
          have b1 : (i : Int) ≤ (p : Int) := by omega
          have b2 : (p : Int) < ((i + m : Nat) : Int) := by omega
          have c1 := Lib.hid (aHasN r' g' 100 B p wr hOb.at_ hlt)
          have c2 := Lib.hid (fun w h => aHasN r g 100 A p w h hlt)
          rw [hbb] at c1
          rw [hbit] at c2
          clear hbit hbb hin
          go_wp2_with fail
          refine c1.out.mono ?_
          rintro e w4 ⟨rfl, hu4⟩
          have hOa4 := hOa.non hu4
          have hOb4 := hOb.non hu4
          clear hOa hOb hu4 c1
          go_wp2_with fail
          refine (c2.out _ hOa4.at_).mono ?_
          rintro e w5 ⟨rfl, hu5⟩
          have hOa5 := hOa4.non hu5
          have hOb5 := hOb4.non hu5
          clear hOa4 hOb4 hu5 c2
          go_wp2_with fail
          go_roundw
          case rel => exact ⟨p + 1, by go_num, by omega, hOa5, hOb5⟩
          case measure => simp [intOf]; omega
        · rw [if_neg hin] at hbit
          have c1 := Lib.hid (fun w h => aHasN r' g' 100 B p w h hlt)
          have c2 := Lib.hid (fun w h => aHasN r g 100 A p w h hlt)
          rw [hbit] at c2
          clear hbit
          generalize B.testBit p = x at *
          by_cases hip : i ≤ p
          · have b1 : (i : Int) ≤ (p : Int) := by omega
            have b2 : ¬ (p : Int) < ((i + m : Nat) : Int) := by omega
            clear hin
            go_wp2_with fail
            refine (c2.out _ hOa.at_).mono ?_
            rintro e w4 ⟨rfl, hu4⟩
            have hOa4 := hOa.non hu4
            have hOb4 := hOb.non hu4
            clear hOa hOb hu4 c2
            go_wp2_with fail
            refine (c1.out _ hOb4.at_).mono ?_
            rintro e w5 ⟨rfl, hu5⟩
            have hOa5 := hOa4.non hu5
            have hOb5 := hOb4.non hu5
            clear hOa4 hOb4 hu5 c1
            cases x <;>
            · go_wp2_with fail
              go_roundw
              case rel => exact ⟨p + 1, by go_num, by omega, hOa5, hOb5⟩
              case measure => simp [intOf]; omega
          · have b1 : ¬ (i : Int) ≤ (p : Int) := by omega
            clear hin
            go_wp2_with fail
            refine (c2.out _ hOa.at_).mono ?_
            rintro e w4 ⟨rfl, hu4⟩
            have hOa4 := hOa.non hu4
            have hOb4 := hOb.non hu4
            clear hOa hOb hu4 c2
            go_wp2_with fail
            refine (c1.out _ hOb4.at_).mono ?_
            rintro e w5 ⟨rfl, hu5⟩
            have hOa5 := hOa4.non hu5
            have hOb5 := hOb4.non hu5
            clear hOa4 hOb4 hu5 c1
            cases x <;>
            · go_wp2_with fail
              go_roundw
              case rel => exact ⟨p + 1, by go_num, by omega, hOa5, hOb5⟩
              case measure => simp [intOf]; omega
      · obtain rfl : p = 100 := by omega
        have hlt' : ¬ ((100 : Nat) : Int) < 100 := by omega
        have c1 := Lib.hid (fun w h => aFree r g 100 A w h)
        have c2 := Lib.hid (fun w h => aFree r' g' 100 B w h)
        have hle := popc_le 100 A
        have hf := f1.out
        clear f1 f2 hfree
        generalize popc 100 A = pa at *
        generalize popc 100 B = pb at *
        obtain ⟨nb, hnb⟩ : ∃ nb, 100 - pb = nb := ⟨_, rfl⟩
        obtain ⟨na, hna⟩ : ∃ na, 100 - pa = na := ⟨_, rfl⟩
        rw [hna] at c1
        rw [hnb] at c2
        have hs : (nb : Int) - (m : Int) = (na : Int) := by omega
        have hs2 : IntKind.i64.wrap ((nb : Int) - (m : Int)) = (na : Int) := by rw [hs]; exact IntWalk.i64_in _ ⟨by omega, by omega⟩
        clear hf hle hnb hna hs
        go_wp2_with fail
        refine (c1.out _ hOa.at_).mono ?_
        rintro e w4 ⟨rfl, hu4⟩
        have hOa4 := hOa.non hu4
        have hOb4 := hOb.non hu4
        clear hOa hOb hu4 c1
        go_wp2_with fail
        refine (c2.out _ hOb4.at_).mono ?_
        rintro e w5 ⟨rfl, hu5⟩
        have hU5 := (hOa4.non hu5).upd
        clear hOa4 hOb4 hu5 c2
        go_wp2_with fail
        refine (lives07 _).mono ?_
        rintro e w7 ⟨rfl, u7⟩
        have t := hU5.trans u7 fun _ _ h => h
        go_wp2_with fail
        go_ret
        exact ⟨rfl, t⟩
end Go.Proofs.Yteeppclnmjlcbaa
