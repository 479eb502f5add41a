/- The walks over super.Check, super.Bytes. -/
import Derived.Test.YtgdkgnolkepgdaaMSuP
import Derived.Test.YtgdkgnolkepgdaaMField
import Derived.Test.YtgdkgnolkepgdaaMAppZ
import Derived.Test.YtgdkgnolkepgdaaMTagB
import Derived.Test.YtgdkgnolkepgdaaMLibF
import Derived.Test.YtgdkgnolkepgdaaMBlM
import Derived.Deep.RegionHeld3
namespace Go.Proofs.Ytgdkgnolkepgdaa
set_option maxRecDepth 100000
open Go.RowKit Go.Amb Go.Shelf
set_option linter.unusedVariables false
set_option linter.unusedSimpArgs false
attribute [local go_sem ↓] Go.wp_at_zero Go.wp_at_succ

theorem yUpto (n a b : Int) (w : World) : Calls Try.prog 37 #[.int .i64 n, .int .i64 a, .int .i64 b] w (Ret (.bool (decide (a ≤ n) && decide (n ≤ b))) w) := by
  by_cases h1 : a ≤ n
  · by_cases h2 : n ≤ b
    · rw [decide_eq_true h1, decide_eq_true h2]
      go_enter Try.func37, Try.ntmps37
      go_wp2_with fail
      go_ret
      exact ⟨rfl, Upd.refl _ _⟩
    · rw [decide_eq_true h1, decide_eq_false h2]
      go_enter Try.func37, Try.ntmps37
      go_wp2_with fail
      go_ret
      exact ⟨rfl, Upd.refl _ _⟩
  · rw [decide_eq_false h1]
    go_enter Try.func37, Try.ntmps37
    go_wp2_with fail
    go_ret
    exact ⟨rfl, Upd.refl _ _⟩
theorem box6 {w wr : World} {c0 c1 c2 c3 c4 c5 : Value} (h : Upd Non (w.alloc (.cells #[c0, c1, c2, c3, c4, c5] 23)) wr) :
    (wr.cell? ⟨w.heap.size, 0, none⟩ = some c0 ∧ wr.cell? ⟨w.heap.size, 1, none⟩ = some c1 ∧ wr.cell? ⟨w.heap.size, 2, none⟩ = some c2 ∧ wr.cell? ⟨w.heap.size, 3, none⟩ = some c3 ∧ wr.cell? ⟨w.heap.size, 4, none⟩ = some c4 ∧ wr.cell? ⟨w.heap.size, 5, none⟩ = some c5) ∧ Upd Non w wr :=
  have q := (h.own1 (fun _ h => h.elim)).1
  ⟨⟨q 0, q 1, q 2, q 3, q 4, q 5⟩, (h.own1 (fun _ h => h.elim)).2.2.2⟩
theorem cells6 {w : World} {b : Nat} {c0 c1 c2 c3 c4 c5 : Value} {t : TypeId} (h : w.heap[b]? = some (.cells #[c0, c1, c2, c3, c4, c5] t (0, 0))) : w.cell? ⟨b, 0, none⟩ = some c0 ∧ w.cell? ⟨b, 1, none⟩ = some c1 ∧ w.cell? ⟨b, 2, none⟩ = some c2 ∧ w.cell? ⟨b, 3, none⟩ = some c3 ∧ w.cell? ⟨b, 4, none⟩ = some c4 ∧ w.cell? ⟨b, 5, none⟩ = some c5 :=
  ⟨(cells_of h).1 0, (cells_of h).1 1, (cells_of h).1 2, (cells_of h).1 3, (cells_of h).1 4, (cells_of h).1 5⟩
theorem ckS_are (s : Sp) : ckS s = if (decide (0 ≤ s.gen) && decide (s.gen ≤ 1152921504606846976)) && ((decide (0 ≤ s.start) && decide (s.start ≤ 1152921504606846976)) && ((decide (-1 ≤ s.root) && decide (s.root ≤ 16383)) && ((decide (0 ≤ s.epoch) && decide (s.epoch ≤ 2147483647)) && ((decide (0 ≤ s.last) && decide (s.last ≤ 1152921504606846976)) && (decide (0 ≤ s.mark) && decide (s.mark ≤ s.last)))))) then 0 else 2 := by
  unfold ckS SpOk
  simp only [Bool.and_eq_true, decide_eq_true_eq]
set_option maxHeartbeats 4000000 in
theorem yCheck (s : Sp) (w : World) : Calls Try.prog 12 #[spV s] w (Ret (.int .i64 (ckS s)) w) := by
  rw [ckS_are]
  obtain ⟨g, r, st, ep, la, ma⟩ := s
  unfold spV
  have h1 := Lib.hid (fun w => yUpto g 0 1152921504606846976 w)
  have h2 := Lib.hid (fun w => yUpto st 0 1152921504606846976 w)
  have h3 := Lib.hid (fun w => yUpto r (-1) 16383 w)
  have h4 := Lib.hid (fun w => yUpto ep 0 2147483647 w)
  have h5 := Lib.hid (fun w => yUpto la 0 1152921504606846976 w)
  have h6 := Lib.hid (fun w => yUpto ma 0 la w)
  simp only
  generalize (decide (0 ≤ g) && decide (g ≤ 1152921504606846976)) = b1 at *
  generalize (decide (0 ≤ st) && decide (st ≤ 1152921504606846976)) = b2 at *
  generalize (decide (-1 ≤ r) && decide (r ≤ 16383)) = b3 at *
  generalize (decide (0 ≤ ep) && decide (ep ≤ 2147483647)) = b4 at *
  generalize (decide (0 ≤ la) && decide (la ≤ 1152921504606846976)) = b5 at *
  generalize (decide (0 ≤ ma) && decide (ma ≤ la)) = b6 at *
  cases b1 with
  | false =>
    go_enter Try.func12, Try.ntmps12
    go_wp2_with fail
    refine (h1.out _).mono ?_
    rintro e w1 ⟨rfl, hX⟩
    obtain ⟨⟨x0, x1, x2, x3, x4, x5⟩, -⟩ := box6 hX
    go_wp2_with fail
    go_ret
    exact ⟨rfl, (box6 hX).2⟩
  | true =>
    cases b2 with
    | false =>
      go_enter Try.func12, Try.ntmps12
      go_wp2_with fail
      refine (h1.out _).mono ?_
      rintro e w1 ⟨rfl, hX⟩
      obtain ⟨⟨x0, x1, x2, x3, x4, x5⟩, -⟩ := box6 hX
      go_wp2_with fail
      refine (h2.out _).mono ?_
      rintro e w2 ⟨rfl, hu⟩
      clear x0 x1 x2 x3 x4 x5
      replace hX := hX.trans hu fun _ _ h => h
      clear hu
      obtain ⟨⟨x0, x1, x2, x3, x4, x5⟩, -⟩ := box6 hX
      go_wp2_with fail
      go_ret
      exact ⟨rfl, (box6 hX).2⟩
    | true =>
      cases b3 with
      | false =>
        go_enter Try.func12, Try.ntmps12
        go_wp2_with fail
        refine (h1.out _).mono ?_
        rintro e w1 ⟨rfl, hX⟩
        obtain ⟨⟨x0, x1, x2, x3, x4, x5⟩, -⟩ := box6 hX
        go_wp2_with fail
        refine (h2.out _).mono ?_
        rintro e w2 ⟨rfl, hu⟩
        clear x0 x1 x2 x3 x4 x5
        replace hX := hX.trans hu fun _ _ h => h
        clear hu
        obtain ⟨⟨x0, x1, x2, x3, x4, x5⟩, -⟩ := box6 hX
        go_wp2_with fail
        refine (h3.out _).mono ?_
        rintro e w2 ⟨rfl, hu⟩
        clear x0 x1 x2 x3 x4 x5
        replace hX := hX.trans hu fun _ _ h => h
        clear hu
        obtain ⟨⟨x0, x1, x2, x3, x4, x5⟩, -⟩ := box6 hX
        go_wp2_with fail
        go_ret
        exact ⟨rfl, (box6 hX).2⟩
      | true =>
        cases b4 with
        | false =>
          go_enter Try.func12, Try.ntmps12
          go_wp2_with fail
          refine (h1.out _).mono ?_
          rintro e w1 ⟨rfl, hX⟩
          obtain ⟨⟨x0, x1, x2, x3, x4, x5⟩, -⟩ := box6 hX
          go_wp2_with fail
          refine (h2.out _).mono ?_
          rintro e w2 ⟨rfl, hu⟩
          clear x0 x1 x2 x3 x4 x5
          replace hX := hX.trans hu fun _ _ h => h
          clear hu
          obtain ⟨⟨x0, x1, x2, x3, x4, x5⟩, -⟩ := box6 hX
          go_wp2_with fail
          refine (h3.out _).mono ?_
          rintro e w2 ⟨rfl, hu⟩
          clear x0 x1 x2 x3 x4 x5
          replace hX := hX.trans hu fun _ _ h => h
          clear hu
          obtain ⟨⟨x0, x1, x2, x3, x4, x5⟩, -⟩ := box6 hX
          go_wp2_with fail
          refine (h4.out _).mono ?_
          rintro e w2 ⟨rfl, hu⟩
          clear x0 x1 x2 x3 x4 x5
          replace hX := hX.trans hu fun _ _ h => h
          clear hu
          obtain ⟨⟨x0, x1, x2, x3, x4, x5⟩, -⟩ := box6 hX
          go_wp2_with fail
          go_ret
          exact ⟨rfl, (box6 hX).2⟩
        | true =>
          cases b5 with
          | false =>
            go_enter Try.func12, Try.ntmps12
            go_wp2_with fail
            refine (h1.out _).mono ?_
            rintro e w1 ⟨rfl, hX⟩
            obtain ⟨⟨x0, x1, x2, x3, x4, x5⟩, -⟩ := box6 hX
            go_wp2_with fail
            refine (h2.out _).mono ?_
            rintro e w2 ⟨rfl, hu⟩
            clear x0 x1 x2 x3 x4 x5
            replace hX := hX.trans hu fun _ _ h => h
            clear hu
            obtain ⟨⟨x0, x1, x2, x3, x4, x5⟩, -⟩ := box6 hX
            go_wp2_with fail
            refine (h3.out _).mono ?_
            rintro e w2 ⟨rfl, hu⟩
            clear x0 x1 x2 x3 x4 x5
            replace hX := hX.trans hu fun _ _ h => h
            clear hu
            obtain ⟨⟨x0, x1, x2, x3, x4, x5⟩, -⟩ := box6 hX
            go_wp2_with fail
            refine (h4.out _).mono ?_
            rintro e w2 ⟨rfl, hu⟩
            clear x0 x1 x2 x3 x4 x5
            replace hX := hX.trans hu fun _ _ h => h
            clear hu
            obtain ⟨⟨x0, x1, x2, x3, x4, x5⟩, -⟩ := box6 hX
            go_wp2_with fail
            refine (h5.out _).mono ?_
            rintro e w2 ⟨rfl, hu⟩
            clear x0 x1 x2 x3 x4 x5
            replace hX := hX.trans hu fun _ _ h => h
            clear hu
            obtain ⟨⟨x0, x1, x2, x3, x4, x5⟩, -⟩ := box6 hX
            go_wp2_with fail
            go_ret
            exact ⟨rfl, (box6 hX).2⟩
          | true =>
            cases b6 with
            | false =>
              go_enter Try.func12, Try.ntmps12
              go_wp2_with fail
              refine (h1.out _).mono ?_
              rintro e w1 ⟨rfl, hX⟩
              obtain ⟨⟨x0, x1, x2, x3, x4, x5⟩, -⟩ := box6 hX
              go_wp2_with fail
              refine (h2.out _).mono ?_
              rintro e w2 ⟨rfl, hu⟩
              clear x0 x1 x2 x3 x4 x5
              replace hX := hX.trans hu fun _ _ h => h
              clear hu
              obtain ⟨⟨x0, x1, x2, x3, x4, x5⟩, -⟩ := box6 hX
              go_wp2_with fail
              refine (h3.out _).mono ?_
              rintro e w2 ⟨rfl, hu⟩
              clear x0 x1 x2 x3 x4 x5
              replace hX := hX.trans hu fun _ _ h => h
              clear hu
              obtain ⟨⟨x0, x1, x2, x3, x4, x5⟩, -⟩ := box6 hX
              go_wp2_with fail
              refine (h4.out _).mono ?_
              rintro e w2 ⟨rfl, hu⟩
              clear x0 x1 x2 x3 x4 x5
              replace hX := hX.trans hu fun _ _ h => h
              clear hu
              obtain ⟨⟨x0, x1, x2, x3, x4, x5⟩, -⟩ := box6 hX
              go_wp2_with fail
              refine (h5.out _).mono ?_
              rintro e w2 ⟨rfl, hu⟩
              clear x0 x1 x2 x3 x4 x5
              replace hX := hX.trans hu fun _ _ h => h
              clear hu
              obtain ⟨⟨x0, x1, x2, x3, x4, x5⟩, -⟩ := box6 hX
              go_wp2_with fail
              refine (h6.out _).mono ?_
              rintro e w2 ⟨rfl, hu⟩
              clear x0 x1 x2 x3 x4 x5
              replace hX := hX.trans hu fun _ _ h => h
              clear hu
              obtain ⟨⟨x0, x1, x2, x3, x4, x5⟩, -⟩ := box6 hX
              go_wp2_with fail
              go_ret
              exact ⟨rfl, (box6 hX).2⟩
            | true =>
              go_enter Try.func12, Try.ntmps12
              go_wp2_with fail
              refine (h1.out _).mono ?_
              rintro e w1 ⟨rfl, hX⟩
              obtain ⟨⟨x0, x1, x2, x3, x4, x5⟩, -⟩ := box6 hX
              go_wp2_with fail
              refine (h2.out _).mono ?_
              rintro e w2 ⟨rfl, hu⟩
              clear x0 x1 x2 x3 x4 x5
              replace hX := hX.trans hu fun _ _ h => h
              clear hu
              obtain ⟨⟨x0, x1, x2, x3, x4, x5⟩, -⟩ := box6 hX
              go_wp2_with fail
              refine (h3.out _).mono ?_
              rintro e w2 ⟨rfl, hu⟩
              clear x0 x1 x2 x3 x4 x5
              replace hX := hX.trans hu fun _ _ h => h
              clear hu
              obtain ⟨⟨x0, x1, x2, x3, x4, x5⟩, -⟩ := box6 hX
              go_wp2_with fail
              refine (h4.out _).mono ?_
              rintro e w2 ⟨rfl, hu⟩
              clear x0 x1 x2 x3 x4 x5
              replace hX := hX.trans hu fun _ _ h => h
              clear hu
              obtain ⟨⟨x0, x1, x2, x3, x4, x5⟩, -⟩ := box6 hX
              go_wp2_with fail
              refine (h5.out _).mono ?_
              rintro e w2 ⟨rfl, hu⟩
              clear x0 x1 x2 x3 x4 x5
              replace hX := hX.trans hu fun _ _ h => h
              clear hu
              obtain ⟨⟨x0, x1, x2, x3, x4, x5⟩, -⟩ := box6 hX
              go_wp2_with fail
              refine (h6.out _).mono ?_
              rintro e w2 ⟨rfl, hu⟩
              clear x0 x1 x2 x3 x4 x5
              replace hX := hX.trans hu fun _ _ h => h
              clear hu
              obtain ⟨⟨x0, x1, x2, x3, x4, x5⟩, -⟩ := box6 hX
              go_wp2_with fail
              go_ret
              exact ⟨rfl, (box6 hX).2⟩
end Go.Proofs.Ytgdkgnolkepgdaa
