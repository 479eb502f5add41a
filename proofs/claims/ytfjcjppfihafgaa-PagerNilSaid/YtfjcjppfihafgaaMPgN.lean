/- No pager. -/
import Derived.Test.YtfjcjppfihafgaaMPgB
import Derived.Test.YtfjcjppfihafgaaMPgE
import Derived.Test.YtfjcjppfihafgaaMBlO
namespace Go.Proofs.Ytfjcjppfihafgaa
open Go.RowKit Go.Amb Go.Shelf
set_option linter.unusedVariables false
set_option linter.unusedSimpArgs false
set_option maxRecDepth 100000
/-- No pager, or one that nothing made. -/
def NoPg (w : World) (v : Value) : Prop := v = .pointer none ∨ ∃ P, v = .pointer (some ⟨P, 0, none⟩) ∧ w.heap[P]? = some (.cells #[.pointer none, .pointer none, .int .i64 0, .slice none 0 0] 29 (0, 0))
theorem NoPg.non {w w' : World} {v : Value} (h : NoPg w v) (hu : Upd Non w w') : NoPg w' v := by
  rcases h with h | ⟨D, h, hX⟩
  · exact .inl h
  · exact .inr ⟨D, h, hu.heap hX fun h => h⟩
theorem NoPg.form {w : World} {v : Value} (h : NoPg w v) : ∃ a, v = .pointer a := by
  rcases h with rfl | ⟨D, rfl, -⟩
  · exact ⟨_, rfl⟩
  · exact ⟨_, rfl⟩
theorem pMade {w : World} {v : Value} (h : NoPg w v) : Calls Try.prog 23 #[v] w (Ret (.bool false) w) := by
  rcases h with rfl | ⟨P, rfl, hX⟩
  · go_enter Try.func23, Try.ntmps23
    go_wp2_with fail
    go_ret
    exact ⟨rfl, Upd.refl _ _⟩
  · obtain ⟨x0, x1, x2, x3⟩ := cells4 hX
    clear hX
    go_enter Try.func23, Try.ntmps23
    go_wp2_with fail
    go_ret
    exact ⟨rfl, Upd.refl _ _⟩
theorem pWrite {w : World} {v : Value} (h : NoPg w v) (a : Option Addr) (n c : Nat) : Calls Try.prog 7 #[v, .slice a n c] w (Ret (.tuple #[.int .i64 0, .int .i64 1]) w) := by
  have cM := Lib.hid (fun w' (hu : Upd Non w w') => pMade (h.non hu))
  obtain ⟨pa, rfl⟩ := h.form
  clear h
  go_enter Try.func7, Try.ntmps7
  go_wp2_with fail
  refine (cM.out _ (by (repeat (first | (with_reducible exact Upd.refl _ _) | (with_reducible assumption) | (with_reducible refine Upd.then_drew ?_) | (with_reducible refine Upd.then_drewN ?_ _) | (with_reducible refine Upd.then_alloc ?_ _) | (with_reducible refine Upd.then_setCell ?_ (fun h => absurd h (by simp <;> omega)) _) | (with_reducible refine Upd.trans ?_ (Upd.non (by assumption)) (fun _ _ h => h)))))).mono ?_
  rintro en w1 ⟨rfl, hu1⟩
  have hU := hu1
  clear hu1
  go_wp2_with fail
  go_ret2
  exact ⟨rfl, by (repeat (first | (with_reducible exact Upd.refl _ _) | (with_reducible assumption) | (with_reducible refine Upd.then_drew ?_) | (with_reducible refine Upd.then_drewN ?_ _) | (with_reducible refine Upd.then_alloc ?_ _) | (with_reducible refine Upd.then_setCell ?_ (fun h => absurd h (by simp <;> omega)) _) | (with_reducible refine Upd.trans ?_ (Upd.non (by assumption)) (fun _ _ h => h))))⟩
theorem pRead {w : World} {v : Value} (h : NoPg w v) (i : Int) : Calls Try.prog 8 #[v, .int .i64 i] w (Ret (.tuple #[.slice none 0 0, .int .i64 1]) w) := by
  have cM := Lib.hid (fun w' (hu : Upd Non w w') => pMade (h.non hu))
  obtain ⟨pa, rfl⟩ := h.form
  clear h
  go_enter Try.func8, Try.ntmps8
  go_wp2_with fail
  refine (cM.out _ (by (repeat (first | (with_reducible exact Upd.refl _ _) | (with_reducible assumption) | (with_reducible refine Upd.then_drew ?_) | (with_reducible refine Upd.then_drewN ?_ _) | (with_reducible refine Upd.then_alloc ?_ _) | (with_reducible refine Upd.then_setCell ?_ (fun h => absurd h (by simp <;> omega)) _) | (with_reducible refine Upd.trans ?_ (Upd.non (by assumption)) (fun _ _ h => h)))))).mono ?_
  rintro en w1 ⟨rfl, hu1⟩
  have hU := hu1
  clear hu1
  go_wp2_with fail
  go_ret2
  exact ⟨rfl, by (repeat (first | (with_reducible exact Upd.refl _ _) | (with_reducible assumption) | (with_reducible refine Upd.then_drew ?_) | (with_reducible refine Upd.then_drewN ?_ _) | (with_reducible refine Upd.then_alloc ?_ _) | (with_reducible refine Upd.then_setCell ?_ (fun h => absurd h (by simp <;> omega)) _) | (with_reducible refine Upd.trans ?_ (Upd.non (by assumption)) (fun _ _ h => h))))⟩
theorem pRewrite {w : World} {v : Value} (h : NoPg w v) (i : Int) (a : Option Addr) (n c : Nat) : Calls Try.prog 10 #[v, .int .i64 i, .slice a n c] w (Ret (.int .i64 1) w) := by
  have cM := Lib.hid (fun w' (hu : Upd Non w w') => pMade (h.non hu))
  obtain ⟨pa, rfl⟩ := h.form
  clear h
  go_enter Try.func10, Try.ntmps10
  go_wp2_with fail
  refine (cM.out _ (by (repeat (first | (with_reducible exact Upd.refl _ _) | (with_reducible assumption) | (with_reducible refine Upd.then_drew ?_) | (with_reducible refine Upd.then_drewN ?_ _) | (with_reducible refine Upd.then_alloc ?_ _) | (with_reducible refine Upd.then_setCell ?_ (fun h => absurd h (by simp <;> omega)) _) | (with_reducible refine Upd.trans ?_ (Upd.non (by assumption)) (fun _ _ h => h)))))).mono ?_
  rintro en w1 ⟨rfl, hu1⟩
  have hU := hu1
  clear hu1
  go_wp2_with fail
  go_ret
  exact ⟨rfl, by (repeat (first | (with_reducible exact Upd.refl _ _) | (with_reducible assumption) | (with_reducible refine Upd.then_drew ?_) | (with_reducible refine Upd.then_drewN ?_ _) | (with_reducible refine Upd.then_alloc ?_ _) | (with_reducible refine Upd.then_setCell ?_ (fun h => absurd h (by simp <;> omega)) _) | (with_reducible refine Upd.trans ?_ (Upd.non (by assumption)) (fun _ _ h => h))))⟩
theorem pRelease {w : World} {v : Value} (h : NoPg w v) (i : Int) : Calls Try.prog 11 #[v, .int .i64 i] w (Ret (.int .i64 1) w) := by
  have cM := Lib.hid (fun w' (hu : Upd Non w w') => pMade (h.non hu))
  obtain ⟨pa, rfl⟩ := h.form
  clear h
  go_enter Try.func11, Try.ntmps11
  go_wp2_with fail
  refine (cM.out _ (by (repeat (first | (with_reducible exact Upd.refl _ _) | (with_reducible assumption) | (with_reducible refine Upd.then_drew ?_) | (with_reducible refine Upd.then_drewN ?_ _) | (with_reducible refine Upd.then_alloc ?_ _) | (with_reducible refine Upd.then_setCell ?_ (fun h => absurd h (by simp <;> omega)) _) | (with_reducible refine Upd.trans ?_ (Upd.non (by assumption)) (fun _ _ h => h)))))).mono ?_
  rintro en w1 ⟨rfl, hu1⟩
  have hU := hu1
  clear hu1
  go_wp2_with fail
  go_ret
  exact ⟨rfl, by (repeat (first | (with_reducible exact Upd.refl _ _) | (with_reducible assumption) | (with_reducible refine Upd.then_drew ?_) | (with_reducible refine Upd.then_drewN ?_ _) | (with_reducible refine Upd.then_alloc ?_ _) | (with_reducible refine Upd.then_setCell ?_ (fun h => absurd h (by simp <;> omega)) _) | (with_reducible refine Upd.trans ?_ (Upd.non (by assumption)) (fun _ _ h => h))))⟩
theorem pTurn {w : World} {v : Value} (h : NoPg w v) (a b : Int) : Calls Try.prog 32 #[v, .int .i64 a, .int .i64 b] w (Ret (.int .i64 1) w) := by
  have cM := Lib.hid (fun w' (hu : Upd Non w w') => pMade (h.non hu))
  obtain ⟨pa, rfl⟩ := h.form
  clear h
  go_enter Try.func32, Try.ntmps32
  go_wp2_with fail
  refine (cM.out _ (by (repeat (first | (with_reducible exact Upd.refl _ _) | (with_reducible assumption) | (with_reducible refine Upd.then_drew ?_) | (with_reducible refine Upd.then_drewN ?_ _) | (with_reducible refine Upd.then_alloc ?_ _) | (with_reducible refine Upd.then_setCell ?_ (fun h => absurd h (by simp <;> omega)) _) | (with_reducible refine Upd.trans ?_ (Upd.non (by assumption)) (fun _ _ h => h)))))).mono ?_
  rintro en w1 ⟨rfl, hu1⟩
  have hU := hu1
  clear hu1
  go_wp2_with fail
  go_ret
  exact ⟨rfl, by (repeat (first | (with_reducible exact Upd.refl _ _) | (with_reducible assumption) | (with_reducible refine Upd.then_drew ?_) | (with_reducible refine Upd.then_drewN ?_ _) | (with_reducible refine Upd.then_alloc ?_ _) | (with_reducible refine Upd.then_setCell ?_ (fun h => absurd h (by simp <;> omega)) _) | (with_reducible refine Upd.trans ?_ (Upd.non (by assumption)) (fun _ _ h => h))))⟩
theorem pFree {w : World} {v : Value} (h : NoPg w v) : Calls Try.prog 15 #[v] w (Ret (.int .i64 0) w) := by
  have cM := Lib.hid (fun w' (hu : Upd Non w w') => pMade (h.non hu))
  obtain ⟨pa, rfl⟩ := h.form
  clear h
  go_enter Try.func15, Try.ntmps15
  go_wp2_with fail
  refine (cM.out _ (by (repeat (first | (with_reducible exact Upd.refl _ _) | (with_reducible assumption) | (with_reducible refine Upd.then_drew ?_) | (with_reducible refine Upd.then_drewN ?_ _) | (with_reducible refine Upd.then_alloc ?_ _) | (with_reducible refine Upd.then_setCell ?_ (fun h => absurd h (by simp <;> omega)) _) | (with_reducible refine Upd.trans ?_ (Upd.non (by assumption)) (fun _ _ h => h)))))).mono ?_
  rintro en w1 ⟨rfl, hu1⟩
  have hU := hu1
  clear hu1
  go_wp2_with fail
  go_ret
  exact ⟨rfl, by (repeat (first | (with_reducible exact Upd.refl _ _) | (with_reducible assumption) | (with_reducible refine Upd.then_drew ?_) | (with_reducible refine Upd.then_drewN ?_ _) | (with_reducible refine Upd.then_alloc ?_ _) | (with_reducible refine Upd.then_setCell ?_ (fun h => absurd h (by simp <;> omega)) _) | (with_reducible refine Upd.trans ?_ (Upd.non (by assumption)) (fun _ _ h => h))))⟩
theorem pKeep {w : World} {v : Value} (h : NoPg w v) (a : Option Addr) (n c : Nat) : Calls Try.prog 14 #[v, .slice a n c] w (Ret (.int .i64 1) w) := by
  have cM := Lib.hid (fun w' (hu : Upd Non w w') => pMade (h.non hu))
  obtain ⟨pa, rfl⟩ := h.form
  clear h
  go_enter Try.func14, Try.ntmps14
  go_wp2_with fail
  refine (cM.out _ (by (repeat (first | (with_reducible exact Upd.refl _ _) | (with_reducible assumption) | (with_reducible refine Upd.then_drew ?_) | (with_reducible refine Upd.then_drewN ?_ _) | (with_reducible refine Upd.then_alloc ?_ _) | (with_reducible refine Upd.then_setCell ?_ (fun h => absurd h (by simp <;> omega)) _) | (with_reducible refine Upd.trans ?_ (Upd.non (by assumption)) (fun _ _ h => h)))))).mono ?_
  rintro en w1 ⟨rfl, hu1⟩
  have hU := hu1
  clear hu1
  go_wp2_with fail
  go_ret
  exact ⟨rfl, by (repeat (first | (with_reducible exact Upd.refl _ _) | (with_reducible assumption) | (with_reducible refine Upd.then_drew ?_) | (with_reducible refine Upd.then_drewN ?_ _) | (with_reducible refine Upd.then_alloc ?_ _) | (with_reducible refine Upd.then_setCell ?_ (fun h => absurd h (by simp <;> omega)) _) | (with_reducible refine Upd.trans ?_ (Upd.non (by assumption)) (fun _ _ h => h))))⟩
theorem pPages {w : World} {v : Value} (h : NoPg w v) : Calls Try.prog 9 #[v] w (Ret (.tuple #[.slice none 0 0, .slice none 0 0, .slice none 0 0]) w) := by
  have cM := Lib.hid (fun w' (hu : Upd Non w w') => pMade (h.non hu))
  obtain ⟨pa, rfl⟩ := h.form
  clear h
  go_enter Try.func9, Try.ntmps9
  go_wp2_with fail
  refine (cM.out _ (Upd.refl _ _)).mono ?_
  rintro en w1 ⟨rfl, hu1⟩
  go_wp2_with fail
  refine bodyPost_ret (v := .tuple #[.slice none 0 0, .slice none 0 0, .slice none 0 0]) (by simp [results, Try.results9, go_sem]; try rfl) rfl ⟨rfl, hu1⟩
theorem pSettle {w : World} {v : Value} (h : NoPg w v) : Calls Try.prog 12 #[v] w (Ret (.int .i64 1) w) := by
  have cM := Lib.hid (fun w' (hu : Upd Non w w') => pTurn (h.non hu))
  obtain ⟨pa, rfl⟩ := h.form
  clear h
  go_enter Try.func12, Try.ntmps12
  go_wp2_with fail
  refine (cM.out _ (Upd.refl _ _) _ _).mono ?_
  rintro en w1 ⟨rfl, hu1⟩
  go_wp2_with fail
  go_ret
  exact ⟨rfl, hu1⟩
theorem pUndo {w : World} {v : Value} (h : NoPg w v) : Calls Try.prog 13 #[v] w (Ret (.int .i64 1) w) := by
  have cM := Lib.hid (fun w' (hu : Upd Non w w') => pTurn (h.non hu))
  obtain ⟨pa, rfl⟩ := h.form
  clear h
  go_enter Try.func13, Try.ntmps13
  go_wp2_with fail
  refine (cM.out _ (Upd.refl _ _) _ _).mono ?_
  rintro en w1 ⟨rfl, hu1⟩
  go_wp2_with fail
  go_ret
  exact ⟨rfl, hu1⟩
theorem pNew (w : World) (fr n : Int) : Calls Try.prog 6 #[.pointer none, .int .i64 fr, .int .i64 n] w (Ret (.tuple #[.pointer none, .int .i64 1]) w) := by
  have cS := Lib.hid (fun w' => nSize (w := w') (v := .pointer none) (.inl rfl))
  go_enter Try.func6, Try.ntmps6
  go_wp2_with fail
  refine (cS.out _).mono ?_
  rintro en w1 ⟨rfl, hu1⟩
  go_wp2_with fail
  go_ret2
  exact ⟨rfl, hu1⟩
end Go.Proofs.Ytfjcjppfihafgaa
