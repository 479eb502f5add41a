/- The walk of SuperNil. -/
import Derived.Test.YtgdkgnolkepgdaaMSuN
namespace Go.Proofs.Ytgdkgnolkepgdaa
set_option maxRecDepth 100000
open Go.RowKit Go.Amb Go.Shelf
set_option linter.unusedVariables false
set_option linter.unusedSimpArgs false
attribute [local go_sem ↓] Go.wp_at_zero Go.wp_at_succ
set_option maxHeartbeats 2000000 in
theorem nil11 (s : Sp) (made : Bool) (w : World) : Calls Try.prog 8 #[spV s, .bool made] w (Ret (.bool true) w) := by
  have hlv := Lib.hid lives11
  have hgu := sup_guard .eql
  have heq := sup_eql
  obtain ⟨g, r, st, ep, la, ma⟩ := s
  unfold spV
  simp only
  cases made with
  | false =>
    have hN : NoDisk (w.alloc (.cells #[.int .i64 g, .int .i64 r, .int .i64 st, .int .i64 ep, .int .i64 la, .int .i64 ma] 23)) (.pointer none) := .inl rfl
    have hbS := heap_alloc_new w (.cells #[.int .i64 g, .int .i64 r, .int .i64 st, .int .i64 ep, .int .i64 la, .int .i64 ma] 23)
    have hU := (Upd.refl Non w).then_alloc (.cells #[.int .i64 g, .int .i64 r, .int .i64 st, .int .i64 ep, .int .i64 la, .int .i64 ma] 23)
    go_enter Try.func8, Try.ntmps8
    go_wp2_with fail
    have hfi := Lib.hid (nFind hN)
    refine hfi.out.mono ?_
    rintro en w1 ⟨rfl, hu⟩
    clear hfi
    replace hU := (hU.trans hu fun _ _ h => h).then_alloc (.cells #[.int .i64 0, .int .i64 0, .int .i64 0, .int .i64 0, .int .i64 0, .int .i64 0] 23)
    replace hbS := (Upd.alloc Non w1 (.cells #[.int .i64 0, .int .i64 0, .int .i64 0, .int .i64 0, .int .i64 0, .int .i64 0] 23)).heap (hu.heap hbS fun h => h) fun h => h
    replace hN := (hN.non hu).non (Upd.alloc Non w1 (.cells #[.int .i64 0, .int .i64 0, .int .i64 0, .int .i64 0, .int .i64 0, .int .i64 0] 23))
    have hb6 := heap_alloc_new w1 (.cells #[.int .i64 0, .int .i64 0, .int .i64 0, .int .i64 0, .int .i64 0, .int .i64 0] 23)
    obtain ⟨x0, x1, x2, x3, x4, x5⟩ := cells6 hbS
    clear hu
    go_wp2_with fail
    have hsv := Lib.hid (nSave hN ⟨g, r, st, ep, la, ma⟩)
    unfold spV at hsv
    simp only at hsv
    refine hsv.out.mono ?_
    rintro en w2 ⟨rfl, hu⟩
    clear hsv x0 x1 x2 x3 x4 x5 hbS hN
    replace hU := (hU.trans hu fun _ _ h => h).then_alloc (.cells #[.int .i64 0, .int .i64 0, .int .i64 0, .int .i64 0, .int .i64 0, .int .i64 0] 23)
    replace hb6 := (Upd.alloc Non w2 (.cells #[.int .i64 0, .int .i64 0, .int .i64 0, .int .i64 0, .int .i64 0, .int .i64 0] 23)).heap (hu.heap hb6 fun h => h) fun h => h
    obtain ⟨y0, y1, y2, y3, y4, y5⟩ := cells6 hb6
    clear hu hb6
    go_wp2_with fail
    refine (hlv.out _).mono ?_
    rintro en w3 ⟨rfl, hu⟩
    go_wp2_with fail
    go_ret
    exact ⟨rfl, hU.trans hu fun _ _ h => h⟩
  | true =>
    have hN : NoDisk ((w.alloc (.cells #[.int .i64 g, .int .i64 r, .int .i64 st, .int .i64 ep, .int .i64 la, .int .i64 ma] 23)).alloc (.cells #[.slice none 0 0, .slice none 0 0, .int .i64 0, .bool false] 58)) (.pointer (some ⟨w.heap.size + 1, 0, none⟩)) := .inr ⟨_, rfl, heap_alloc2_new w _ _⟩
    have hbS := heap_alloc2_old w (.cells #[.int .i64 g, .int .i64 r, .int .i64 st, .int .i64 ep, .int .i64 la, .int .i64 ma] 23) (.cells #[.slice none 0 0, .slice none 0 0, .int .i64 0, .bool false] 58)
    have hU := ((Upd.refl Non w).then_alloc (.cells #[.int .i64 g, .int .i64 r, .int .i64 st, .int .i64 ep, .int .i64 la, .int .i64 ma] 23)).then_alloc (.cells #[.slice none 0 0, .slice none 0 0, .int .i64 0, .bool false] 58)
    go_enter Try.func8, Try.ntmps8
    go_wp2_with fail
    have hfi := Lib.hid (nFind hN)
    refine hfi.out.mono ?_
    rintro en w1 ⟨rfl, hu⟩
    clear hfi
    replace hU := (hU.trans hu fun _ _ h => h).then_alloc (.cells #[.int .i64 0, .int .i64 0, .int .i64 0, .int .i64 0, .int .i64 0, .int .i64 0] 23)
    replace hbS := (Upd.alloc Non w1 (.cells #[.int .i64 0, .int .i64 0, .int .i64 0, .int .i64 0, .int .i64 0, .int .i64 0] 23)).heap (hu.heap hbS fun h => h) fun h => h
    replace hN := (hN.non hu).non (Upd.alloc Non w1 (.cells #[.int .i64 0, .int .i64 0, .int .i64 0, .int .i64 0, .int .i64 0, .int .i64 0] 23))
    have hb6 := heap_alloc_new w1 (.cells #[.int .i64 0, .int .i64 0, .int .i64 0, .int .i64 0, .int .i64 0, .int .i64 0] 23)
    obtain ⟨x0, x1, x2, x3, x4, x5⟩ := cells6 hbS
    clear hu
    go_wp2_with fail
    have hsv := Lib.hid (nSave hN ⟨g, r, st, ep, la, ma⟩)
    unfold spV at hsv
    simp only at hsv
    refine hsv.out.mono ?_
    rintro en w2 ⟨rfl, hu⟩
    clear hsv x0 x1 x2 x3 x4 x5 hbS hN
    replace hU := (hU.trans hu fun _ _ h => h).then_alloc (.cells #[.int .i64 0, .int .i64 0, .int .i64 0, .int .i64 0, .int .i64 0, .int .i64 0] 23)
    replace hb6 := (Upd.alloc Non w2 (.cells #[.int .i64 0, .int .i64 0, .int .i64 0, .int .i64 0, .int .i64 0, .int .i64 0] 23)).heap (hu.heap hb6 fun h => h) fun h => h
    obtain ⟨y0, y1, y2, y3, y4, y5⟩ := cells6 hb6
    clear hu hb6
    go_wp2_with fail
    refine (hlv.out _).mono ?_
    rintro en w3 ⟨rfl, hu⟩
    go_wp2_with fail
    go_ret
    exact ⟨rfl, hU.trans hu fun _ _ h => h⟩
end Go.Proofs.Ytgdkgnolkepgdaa
