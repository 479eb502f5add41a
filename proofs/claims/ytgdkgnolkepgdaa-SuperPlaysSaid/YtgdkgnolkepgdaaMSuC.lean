/- The walks over ambryref11: Right, Check, put, Bytes. -/
import Derived.Test.YtgdkgnolkepgdaaMSuB
import Derived.Test.YtgdkgnolkepgdaaMBlV
namespace Go.Proofs.Ytgdkgnolkepgdaa
set_option maxRecDepth 100000
open Go.RowKit Go.Amb Go.Shelf
set_option linter.unusedVariables false
set_option linter.unusedSimpArgs false
attribute [local go_sem ↓] Go.wp_at_zero Go.wp_at_succ

set_option maxHeartbeats 4000000 in
theorem qRightB (g r st ep la ma : Int) (w : World) (b1 b2 b3 b4 b5 b6 b7 b8 b9 b10 b11 b12 : Bool) (h1 : decide (0 ≤ g) = b1) (h2 : decide (g ≤ 1152921504606846976) = b2) (h3 : decide (0 ≤ st) = b3) (h4 : decide (st ≤ 1152921504606846976) = b4) (h5 : decide (-1 ≤ r) = b5) (h6 : decide (r < 16384) = b6) (h7 : decide (0 ≤ ep) = b7) (h8 : decide (ep ≤ 2147483647) = b8) (h9 : decide (0 ≤ la) = b9) (h10 : decide (la ≤ 1152921504606846976) = b10) (h11 : decide (0 ≤ ma) = b11) (h12 : decide (ma ≤ la) = b12) :
    Calls Try.prog 34 #[.agg #[.int .i64 g, .int .i64 r, .int .i64 st, .int .i64 ep, .int .i64 la, .int .i64 ma]] w (Ret (.bool (b1 && (b2 && (b3 && (b4 && (b5 && (b6 && (b7 && (b8 && (b9 && (b10 && (b11 && (b12))))))))))))) w) := by
  cases b1 with
  | false =>
    go_enter Try.func34, Try.ntmps34
    go_wp2_with fail
    go_ret
    exact ⟨rfl, (Upd.refl Non w).then_alloc _⟩
  | true =>
    cases b2 with
    | false =>
      go_enter Try.func34, Try.ntmps34
      go_wp2_with fail
      go_ret
      exact ⟨rfl, (Upd.refl Non w).then_alloc _⟩
    | true =>
      cases b3 with
      | false =>
        go_enter Try.func34, Try.ntmps34
        go_wp2_with fail
        go_ret
        exact ⟨rfl, (Upd.refl Non w).then_alloc _⟩
      | true =>
        cases b4 with
        | false =>
          go_enter Try.func34, Try.ntmps34
          go_wp2_with fail
          go_ret
          exact ⟨rfl, (Upd.refl Non w).then_alloc _⟩
        | true =>
          cases b5 with
          | false =>
            go_enter Try.func34, Try.ntmps34
            go_wp2_with fail
            go_ret
            exact ⟨rfl, (Upd.refl Non w).then_alloc _⟩
          | true =>
            cases b6 with
            | false =>
              go_enter Try.func34, Try.ntmps34
              go_wp2_with fail
              go_ret
              exact ⟨rfl, (Upd.refl Non w).then_alloc _⟩
            | true =>
              cases b7 with
              | false =>
                go_enter Try.func34, Try.ntmps34
                go_wp2_with fail
                go_ret
                exact ⟨rfl, (Upd.refl Non w).then_alloc _⟩
              | true =>
                cases b8 with
                | false =>
                  go_enter Try.func34, Try.ntmps34
                  go_wp2_with fail
                  go_ret
                  exact ⟨rfl, (Upd.refl Non w).then_alloc _⟩
                | true =>
                  cases b9 with
                  | false =>
                    go_enter Try.func34, Try.ntmps34
                    go_wp2_with fail
                    go_ret
                    exact ⟨rfl, (Upd.refl Non w).then_alloc _⟩
                  | true =>
                    cases b10 with
                    | false =>
                      go_enter Try.func34, Try.ntmps34
                      go_wp2_with fail
                      go_ret
                      exact ⟨rfl, (Upd.refl Non w).then_alloc _⟩
                    | true =>
                      cases b11 with
                      | false =>
                        go_enter Try.func34, Try.ntmps34
                        go_wp2_with fail
                        go_ret
                        exact ⟨rfl, (Upd.refl Non w).then_alloc _⟩
                      | true =>
                        cases b12 with
                        | false =>
                          go_enter Try.func34, Try.ntmps34
                          go_wp2_with fail
                          go_ret
                          exact ⟨rfl, (Upd.refl Non w).then_alloc _⟩
                        | true =>
                          go_enter Try.func34, Try.ntmps34
                          go_wp2_with fail
                          go_ret
                          exact ⟨rfl, (Upd.refl Non w).then_alloc _⟩
theorem qRight (s : Sp) (w : World) : Calls Try.prog 34 #[spV s] w (Ret (.bool (decide (SpOk s))) w) := by
  have h := qRightB s.gen s.root s.start s.epoch s.last s.mark w _ _ _ _ _ _ _ _ _ _ _ _ rfl rfl rfl rfl rfl rfl rfl rfl rfl rfl rfl rfl
  have e : (decide (0 ≤ s.gen) && (decide (s.gen ≤ 1152921504606846976) && (decide (0 ≤ s.start) && (decide (s.start ≤ 1152921504606846976) && (decide (-1 ≤ s.root) && (decide (s.root < 16384) && (decide (0 ≤ s.epoch) && (decide (s.epoch ≤ 2147483647) && (decide (0 ≤ s.last) && (decide (s.last ≤ 1152921504606846976) && (decide (0 ≤ s.mark) && decide (s.mark ≤ s.last)))))))))))) = decide (SpOk s) := by
    rw [Bool.eq_iff_iff]
    simp only [Bool.and_eq_true, decide_eq_true_eq]
    unfold SpOk
    constructor
    · rintro ⟨a1, a2, a3, a4, a5, a6, a7, a8, a9, a10, a11, a12⟩
      exact ⟨⟨a1, a2⟩, ⟨a3, a4⟩, ⟨a5, by omega⟩, ⟨a7, a8⟩, ⟨a9, a10⟩, a11, a12⟩
    · rintro ⟨⟨a1, a2⟩, ⟨a3, a4⟩, ⟨a5, a6⟩, ⟨a7, a8⟩, ⟨a9, a10⟩, a11, a12⟩
      exact ⟨a1, a2, a3, a4, a5, by omega, a7, a8, a9, a10, a11, a12⟩
  rw [e] at h
  exact h
theorem qCheck (s : Sp) (w : World) : Calls Try.prog 13 #[spV s] w (Ret (.int .i64 (ckS s)) w) := by
  have hr := Lib.hid (fun w => qRight s w)
  rcases ckS_or s with ⟨hok, hck⟩ | ⟨hno, hck⟩
  · rw [decide_eq_true hok] at hr
    rw [hck]
    clear hok hck
    unfold spV at *
    go_enter Try.func13, Try.ntmps13
    go_wp2_with fail
    refine (hr.out _).mono ?_
    rintro e w1 ⟨rfl, hX⟩
    have hU := (box6 hX).2
    go_wp2_with fail
    go_ret
    exact ⟨rfl, hU⟩
  · rw [decide_eq_false hno] at hr
    rw [hck]
    clear hno hck
    unfold spV at *
    go_enter Try.func13, Try.ntmps13
    go_wp2_with fail
    refine (hr.out _).mono ?_
    rintro e w1 ⟨rfl, hX⟩
    have hU := (box6 hX).2
    go_wp2_with fail
    go_ret
    exact ⟨rfl, hU⟩
end Go.Proofs.Ytgdkgnolkepgdaa
