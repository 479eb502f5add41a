/- The walk of SuperBack. -/
import Derived.Test.YtgdkgnolkepgdaaMSuL
namespace Go.Proofs.Ytgdkgnolkepgdaa
set_option maxRecDepth 100000
open Go.RowKit Go.Amb Go.Shelf
set_option linter.unusedVariables false
set_option linter.unusedSimpArgs false
attribute [local go_sem ↓] Go.wp_at_zero Go.wp_at_succ
theorem sup_neq (a b c d e f : Int) (w : World) : (binOp .neq 23 (.agg #[.int .i64 a, .int .i64 b, .int .i64 c, .int .i64 d, .int .i64 e, .int .i64 f]) (.agg #[.int .i64 a, .int .i64 b, .int .i64 c, .int .i64 d, .int .i64 e, .int .i64 f])).run Try.prog w = .ok (.bool false) w := by
  have hs : Program.stoodInHeld Try.prog 23 = false := by kernel_rfl
  rw [run_neq_struct, run_equalIn_agg w 9999 23 _ _ (by kernel_rfl) hs]
  simp only [Program.fieldsOf, Try.underlying23]
  simp [Op.eqFields, go_sem]
set_option maxHeartbeats 1500000 in
theorem back11 (s : Sp) (vb : Value) (b : List UInt8) (w : World) (hB : Bytes w vb b) (hb : b.length ≤ 140737488355328) : Calls Try.prog 5 #[spV s, vb] w (Ret (.bool true) w) := by
  have hlv := Lib.hid lives11
  have hgu := sup_guard .eql
  have hgn := sup_guard .neq
  have heq := sup_eql
  have hne := sup_neq
  have hcase : (readR b).2 = 0 ∧ (∀ w, Calls Try.prog 10 #[spV (readR b).1] w (BytesRet b 0 w)) ∨ (readR b).2 = 4 ∧ (readR b).1.gen = 0 ∧ (readR b).1.root = 0 ∧ (readR b).1.start = 0 ∧ (readR b).1.epoch = 0 ∧ (readR b).1.last = 0 ∧ (readR b).1.mark = 0 := by
    rcases read_cases b with h | h
    · refine .inl ⟨h, fun w => ?_⟩
      have := yBytes (readR b).1 w
      rw [read_back h] at this
      exact this
    · rw [h]; exact .inr ⟨rfl, rfl, rfl, rfl, rfl, rfl, rfl⟩
  have hre := Lib.hid (fun v w (hB : Bytes w v b) => yRead v b w hB hb)
  have hbs := Lib.hid (fun w => yBytes s w)
  have hck := Lib.hid (fun w => yCheck s w)
  have hbk : Hid (SpOk s → ∀ v w, Bytes w v (full (putS s)) → Calls Try.prog 15 #[v] w (Ret (.tuple #[spV s, .int .i64 0]) w)) := Lib.hid (fun h v w hB => by
    have := yRead v (full (putS s)) w hB (by rw [putS_128]; decide)
    rw [bytes_back h] at this
    exact this)
  have hl := Lib.hid (putS_128 s)
  generalize readR b = rr at *
  obtain ⟨⟨yg, yr, yst, yep, yl, ym⟩, ye⟩ := rr
  obtain ⟨vba, vbc, rfl⟩ := bytes_form hB
  by_cases hok : SpOk s
  · rw [bytesR_yes hok] at hbs
    replace hbk := Lib.hid (hbk.out hok)
    generalize full (putS s) = fp at *
    obtain ⟨g, r, st, ep, la, ma⟩ := s
    unfold spV at *
    simp only at *
    replace hcase := Lib.hid hcase
    clear hck hok
    go_enter Try.func5, Try.ntmps5
    go_wp2_with fail
    refine (hbs.out _).mono ?_
    rintro en w1 ⟨v, rfl, hBv, -, hX⟩
    have hbA := hX.heap (heap_alloc_new w _) fun h => h
    have hU := (box6 hX).2
    obtain ⟨va, vc, rfl⟩ := bytes_form hBv
    clear hX hbs
    go_wp2_with fail
    refine (hbk.out _ _ hBv).mono ?_
    rintro en w2 ⟨rfl, hu⟩
    replace hU := (hU.trans hu fun _ _ h => h).then_alloc (.cells #[.int .i64 g, .int .i64 r, .int .i64 st, .int .i64 ep, .int .i64 la, .int .i64 ma] 23)
    replace hbA := (Upd.alloc Non w2 (.cells #[.int .i64 g, .int .i64 r, .int .i64 st, .int .i64 ep, .int .i64 la, .int .i64 ma] 23)).heap (hu.heap hbA fun h => h) fun h => h
    obtain ⟨x0, x1, x2, x3, x4, x5⟩ := cells6 hbA
    have hBb := hB.upd hU fun _ _ h => h
    have hlI : ((fp.length : Int) != 128) = false := by rw [hl.out]; rfl
    clear hu hBv hbA hbk hB
    go_wp2_with fail
    clear x0 x1 x2 x3 x4 x5
    refine (hre.out _ _ hBb).mono ?_
    rintro en w4 ⟨rfl, hu⟩
    replace hU := (hU.trans hu fun _ _ h => h).then_alloc (.cells #[.int .i64 yg, .int .i64 yr, .int .i64 yst, .int .i64 yep, .int .i64 yl, .int .i64 ym] 23)
    replace hBb := (hBb.upd hu fun _ _ h => h).upd (Upd.alloc Non w4 (.cells #[.int .i64 yg, .int .i64 yr, .int .i64 yst, .int .i64 yep, .int .i64 yl, .int .i64 ym] 23)) fun _ _ h => h
    clear hu
    rcases hcase.out with ⟨he, hby⟩ | ⟨he, h0, h1, h2, h3, h4, h5⟩
    · obtain rfl := he
      replace hby := Lib.hid hby
      go_wp2_with fail
      refine (hby.out _).mono ?_
      rintro en w5 ⟨v5, rfl, hB5, -, hu⟩
      replace hU := hU.trans hu fun _ _ h => h
      replace hBb := hBb.upd hu fun _ _ h => h
      obtain ⟨v5a, v5c, rfl⟩ := bytes_form hB5
      have hs1 := run_str (P := Try.prog) _ 24 9 5 Try.underlying24 Try.underlying5 Try.underlying9 _ _ hBb
      have hs2 := run_str (P := Try.prog) _ 24 9 5 Try.underlying24 Try.underlying5 Try.underlying9 _ _ hB5
      have hs3 := fun w' (h : Upd Non w5 w') => run_str (P := Try.prog) _ 24 9 5 Try.underlying24 Try.underlying5 Try.underlying9 _ _ (hBb.upd h fun _ _ h => h)
      clear hu
      go_wp2_with fail
      refine (hlv.out _).mono ?_
      rintro en w9 ⟨rfl, hu⟩
      go_wp2_with fail
      go_ret
      exact ⟨rfl, hU.trans hu fun _ _ h => h⟩
    · subst he h0 h1 h2 h3 h4 h5
      go_wp2_with fail
      refine (hlv.out _).mono ?_
      rintro en w9 ⟨rfl, hu⟩
      go_wp2_with fail
      go_ret
      exact ⟨rfl, hU.trans hu fun _ _ h => h⟩
  · rw [bytesR_no hok] at hbs
    have hck2 : ckS s = 2 := by unfold ckS; rw [if_neg hok]
    rw [hck2] at hck
    obtain ⟨g, r, st, ep, la, ma⟩ := s
    unfold spV at *
    simp only at *
    replace hcase := Lib.hid hcase
    clear hbk hok hl
    go_enter Try.func5, Try.ntmps5
    go_wp2_with fail
    refine (hbs.out _).mono ?_
    rintro en w1 ⟨v, rfl, hBv, -, hX⟩
    have hbA := hX.heap (heap_alloc_new w _) fun h => h
    have hU := (box6 hX).2
    obtain ⟨x0, x1, x2, x3, x4, x5⟩ := cells6 hbA
    obtain ⟨va, vc, rfl⟩ := bytes_form hBv
    clear hX hbs hBv hbA
    go_wp2_with fail
    refine (hck.out _).mono ?_
    rintro en w2 ⟨rfl, hu⟩
    replace hU := hU.trans hu fun _ _ h => h
    have hBb := hB.upd hU fun _ _ h => h
    clear hu hck hB x0 x1 x2 x3 x4 x5
    go_wp2_with fail
    refine (hre.out _ _ hBb).mono ?_
    rintro en w4 ⟨rfl, hu⟩
    replace hU := (hU.trans hu fun _ _ h => h).then_alloc (.cells #[.int .i64 yg, .int .i64 yr, .int .i64 yst, .int .i64 yep, .int .i64 yl, .int .i64 ym] 23)
    replace hBb := (hBb.upd hu fun _ _ h => h).upd (Upd.alloc Non w4 (.cells #[.int .i64 yg, .int .i64 yr, .int .i64 yst, .int .i64 yep, .int .i64 yl, .int .i64 ym] 23)) fun _ _ h => h
    clear hu
    rcases hcase.out with ⟨he, hby⟩ | ⟨he, h0, h1, h2, h3, h4, h5⟩
    · obtain rfl := he
      replace hby := Lib.hid hby
      go_wp2_with fail
      refine (hby.out _).mono ?_
      rintro en w5 ⟨v5, rfl, hB5, -, hu⟩
      replace hU := hU.trans hu fun _ _ h => h
      replace hBb := hBb.upd hu fun _ _ h => h
      obtain ⟨v5a, v5c, rfl⟩ := bytes_form hB5
      have hs1 := run_str (P := Try.prog) _ 24 9 5 Try.underlying24 Try.underlying5 Try.underlying9 _ _ hBb
      have hs2 := run_str (P := Try.prog) _ 24 9 5 Try.underlying24 Try.underlying5 Try.underlying9 _ _ hB5
      have hs3 := fun w' (h : Upd Non w5 w') => run_str (P := Try.prog) _ 24 9 5 Try.underlying24 Try.underlying5 Try.underlying9 _ _ (hBb.upd h fun _ _ h => h)
      clear hu
      go_wp2_with fail
      refine (hlv.out _).mono ?_
      rintro en w9 ⟨rfl, hu⟩
      go_wp2_with fail
      go_ret
      exact ⟨rfl, hU.trans hu fun _ _ h => h⟩
    · subst he h0 h1 h2 h3 h4 h5
      go_wp2_with fail
      refine (hlv.out _).mono ?_
      rintro en w9 ⟨rfl, hu⟩
      go_wp2_with fail
      go_ret
      exact ⟨rfl, hU.trans hu fun _ _ h => h⟩
end Go.Proofs.Ytgdkgnolkepgdaa
