/- No disk. -/
import Derived.Test.YtfjcjppfihafgaaMBlN
namespace Go.Proofs.Ytfjcjppfihafgaa
open Go.RowKit Go.Amb Go.Shelf
set_option linter.unusedVariables false
set_option linter.unusedSimpArgs false
set_option maxRecDepth 100000
/-- No disk, or one that nothing made. -/
def NoDisk (w : World) (v : Value) : Prop := v = .pointer none ∨ ∃ D, v = .pointer (some ⟨D, 0, none⟩) ∧ w.heap[D]? = some (.cells #[.slice none 0 0, .slice none 0 0, .int .i64 0, .bool false] 73 (0, 0))
theorem NoDisk.non {w w' : World} {v : Value} (h : NoDisk w v) (hu : Upd Non w w') : NoDisk w' v := by
  rcases h with h | ⟨D, h, hX⟩
  · exact .inl h
  · exact .inr ⟨D, h, hu.heap hX fun h => h⟩
theorem nMade {w : World} {v : Value} (h : NoDisk w v) : Calls Try.prog 40 #[v] w (Ret (.bool false) w) := by
  rcases h with rfl | ⟨D, rfl, hX⟩
  · go_enter Try.func40, Try.ntmps40
    go_wp2_with fail
    go_ret
    exact ⟨rfl, Upd.refl _ _⟩
  · have x0 : w.cell? ⟨D, 0, none⟩ = some (.slice none 0 0) := (cells_of hX).1 0
    clear hX
    go_enter Try.func40, Try.ntmps40
    go_wp2_with fail
    go_ret
    exact ⟨rfl, Upd.refl _ _⟩
theorem nMay {w : World} {v : Value} (h : NoDisk w v) : Calls Try.prog 56 #[v] w (Ret (.int .i64 1) w) := by
  have cM := Lib.hid (fun w' (hu : Upd Non w w') => nMade (h.non hu))
  clear h
  go_enter Try.func56, Try.ntmps56
  go_wp2_with fail
  refine (cM.out _ (Upd.refl _ _)).mono ?_
  rintro en w1 ⟨rfl, hu1⟩
  have hU := hu1
  simp only []
  go_wp2_with fail
  go_ret
  exact ⟨rfl, hU⟩
theorem nWithin {w : World} {v : Value} (h : NoDisk w v) (i : Int) : Calls Try.prog 46 #[v, .int .i64 i] w (Ret (.int .i64 1) w) := by
  have cM := Lib.hid (fun w' (hu : Upd Non w w') => nMay (h.non hu))
  clear h
  go_enter Try.func46, Try.ntmps46
  go_wp2_with fail
  refine (cM.out _ (Upd.refl _ _)).mono ?_
  rintro en w1 ⟨rfl, hu1⟩
  have hU := hu1
  simp only []
  go_wp2_with fail
  go_ret
  exact ⟨rfl, hU⟩
theorem nRead {w : World} {v : Value} (h : NoDisk w v) (i : Int) : Calls Try.prog 29 #[v, .int .i64 i] w (Ret (.tuple #[.slice none 0 0, .int .i64 1]) w) := by
  have cM := Lib.hid (fun w' (hu : Upd Non w w') => nWithin (h.non hu) i)
  clear h
  go_enter Try.func29, Try.ntmps29
  go_wp2_with fail
  refine (cM.out _ ((Upd.refl Non w).then_alloc _)).mono ?_
  rintro en w1 ⟨rfl, hu1⟩
  have hU := ((Upd.refl Non w).then_alloc _).trans hu1 fun _ _ h => h
  simp only []
  go_wp2_with fail
  go_ret2
  exact ⟨by simp, hU⟩
theorem nWrite {w : World} {v : Value} (h : NoDisk w v) (i : Int) (a : Option Addr) (n c : Nat) : Calls Try.prog 44 #[v, .int .i64 i, .slice a n c] w (Ret (.int .i64 1) w) := by
  have cM := Lib.hid (fun w' (hu : Upd Non w w') => nWithin (h.non hu) i)
  clear h
  go_enter Try.func44, Try.ntmps44
  go_wp2_with fail
  refine (cM.out _ (Upd.refl _ _)).mono ?_
  rintro en w1 ⟨rfl, hu1⟩
  have hU := hu1
  simp only []
  go_wp2_with fail
  go_ret
  exact ⟨rfl, hU⟩
theorem nCrash {w : World} {v : Value} (h : NoDisk w v) (a : Option Addr) (n c : Nat) : Calls Try.prog 39 #[v, .slice a n c] w (Ret (.int .i64 1) w) := by
  have cM := Lib.hid (fun w' (hu : Upd Non w w') => nMade (h.non hu))
  clear h
  go_enter Try.func39, Try.ntmps39
  go_wp2_with fail
  refine (cM.out _ ((Upd.refl Non w).then_alloc _)).mono ?_
  rintro en w1 ⟨rfl, hu1⟩
  have hU := ((Upd.refl Non w).then_alloc _).trans hu1 fun _ _ h => h
  simp only []
  go_wp2_with fail
  go_ret
  exact ⟨rfl, hU⟩
theorem nSize {w : World} {v : Value} (h : NoDisk w v) : Calls Try.prog 21 #[v] w (Ret (.int .i64 0) w) := by
  have cM := Lib.hid (fun w' (hu : Upd Non w w') => nMade (h.non hu))
  clear h
  go_enter Try.func21, Try.ntmps21
  go_wp2_with fail
  refine (cM.out _ (Upd.refl _ _)).mono ?_
  rintro en w1 ⟨rfl, hu1⟩
  have hU := hu1
  simp only []
  go_wp2_with fail
  go_ret
  exact ⟨rfl, hU⟩
end Go.Proofs.Ytfjcjppfihafgaa
