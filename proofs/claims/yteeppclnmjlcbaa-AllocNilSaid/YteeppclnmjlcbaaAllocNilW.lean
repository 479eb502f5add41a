/- The walks over package alloc: of no alloc, and of one that nothing made. -/
import Derived.Test.YteeppclnmjlcbaaAX
namespace Go.Proofs.Yteeppclnmjlcbaa
open Go.RowKit Go.Amb
set_option linter.unusedVariables false

theorem nilTake (x : Option Addr) (k : Int) (w : World) (h : Calls Try.prog 23 #[.pointer x] w (Ret (.bool false) w)) : Calls Try.prog 12 #[.pointer x, .int .i64 k] w (Ret (.tuple #[.int .i64 0, .int .i64 1]) w) := by
  go_enter Try.func12, Try.ntmps12
  go_wp2_with fail
  refine h.mono ?_
  rintro e w1 ⟨rfl, hu⟩
  go_wp2_with fail
  go_ret2
  exact ⟨rfl, hu⟩
theorem nilClaim (x : Option Addr) (i : Int) (w : World) (h : Calls Try.prog 23 #[.pointer x] w (Ret (.bool false) w)) : Calls Try.prog 22 #[.pointer x, .int .i64 i] w (Ret (.int .i64 1) w) := by
  go_enter Try.func22, Try.ntmps22
  go_wp2_with fail
  refine h.mono ?_
  rintro e w1 ⟨rfl, hu⟩
  go_wp2_with fail
  go_ret
  exact ⟨rfl, hu⟩
theorem nilGive (x : Option Addr) (i k : Int) (w : World) (h : Calls Try.prog 23 #[.pointer x] w (Ret (.bool false) w)) : Calls Try.prog 14 #[.pointer x, .int .i64 i, .int .i64 k] w (Ret (.int .i64 1) w) := by
  go_enter Try.func14, Try.ntmps14
  go_wp2_with fail
  refine h.mono ?_
  rintro e w1 ⟨rfl, hu⟩
  go_wp2_with fail
  go_ret
  exact ⟨rfl, hu⟩
theorem nilHas (x : Option Addr) (i : Int) (w : World) (h : Calls Try.prog 23 #[.pointer x] w (Ret (.bool false) w)) : Calls Try.prog 15 #[.pointer x, .int .i64 i] w (Ret (.bool false) w) := by
  go_enter Try.func15, Try.ntmps15
  go_wp2_with fail
  refine h.mono ?_
  rintro e w1 ⟨rfl, hu⟩
  go_wp2_with fail
  go_ret
  exact ⟨rfl, hu⟩
theorem nilFree (x : Option Addr) (w : World) (h : Calls Try.prog 23 #[.pointer x] w (Ret (.bool false) w)) : Calls Try.prog 11 #[.pointer x] w (Ret (.int .i64 0) w) := by
  go_enter Try.func11, Try.ntmps11
  go_wp2_with fail
  refine h.mono ?_
  rintro e w1 ⟨rfl, hu⟩
  go_wp2_with fail
  go_ret
  exact ⟨rfl, hu⟩
theorem nilRows (x : Option Addr) (w : World) (h : Calls Try.prog 23 #[.pointer x] w (Ret (.bool false) w)) : Calls Try.prog 10 #[.pointer x] w (Ret (.slice none 0 0) w) := by
  go_enter Try.func10, Try.ntmps10
  go_wp2_with fail
  refine h.mono ?_
  rintro e w1 ⟨rfl, hu⟩
  go_wp2_with fail
  go_ret
  exact ⟨rfl, hu⟩
theorem nilCopy (x : Option Addr) (w : World) (h : Calls Try.prog 23 #[.pointer x] w (Ret (.bool false) w)) : Calls Try.prog 21 #[.pointer x] w (Ret (.pointer none) w) := by
  go_enter Try.func21, Try.ntmps21
  go_wp2_with fail
  refine h.mono ?_
  rintro e w1 ⟨rfl, hu⟩
  go_wp2_with fail
  go_ret
  exact ⟨rfl, hu⟩
/-- Of such an alloc there is nothing. -/
def Unmade (x : Option Addr) (w : World) : Prop := x = none ∨ ∃ r, x = some ⟨r, 0, none⟩ ∧ w.cell? ⟨r, 0, none⟩ = some (.int .i64 0)
theorem Unmade.made {x : Option Addr} {w : World} (h : Unmade x w) : Calls Try.prog 23 #[.pointer x] w (Ret (.bool false) w) := by
  rcases h with rfl | ⟨r, rfl, h⟩
  · exact aMade_nil w
  · exact aMade_zero r w h
theorem Unmade.non {x : Option Addr} {w w' : World} (h : Unmade x w) (hu : Upd Non w w') : Unmade x w' := by
  rcases h with rfl | ⟨r, rfl, h⟩
  · exact .inl rfl
  · exact .inr ⟨r, rfl, hu.cell h fun h => h⟩
set_option maxHeartbeats 2000000 in
theorem lAllocNil (i k : Int) (b : Bool) (w : World) : Calls Try.prog 7 #[.int .i64 i, .int .i64 k, .bool b] w (Ret (.bool true) w) := by
  cases b with
  | false =>
    have h0 : Unmade none w := .inl rfl
    have t0 : Upd Non w w := Upd.refl _ _
    generalize hx : (none : Option Addr) = x at h0
    replace hx := Lib.hid hx
    go_enter Try.func7, Try.ntmps7
    go_wp2_with fail
    rw [hx.out]
    go_wp2_with fail
    refine (nilTake x k _ h0.made).mono ?_
    rintro e w1 ⟨rfl, u1⟩
    have h1 := h0.non u1
    have t1 := t0.trans u1 fun _ _ h => h
    clear u1 h0 t0
    go_wp2_with fail
    refine (nilClaim x i _ h1.made).mono ?_
    rintro e w2 ⟨rfl, u2⟩
    have h2 := h1.non u2
    have t2 := t1.trans u2 fun _ _ h => h
    clear u2 h1 t1
    go_wp2_with fail
    refine (nilGive x i k _ h2.made).mono ?_
    rintro e w3 ⟨rfl, u3⟩
    have h3 := h2.non u3
    have t3 := t2.trans u3 fun _ _ h => h
    clear u3 h2 t2
    go_wp2_with fail
    refine (nilHas x i _ h3.made).mono ?_
    rintro e w4 ⟨rfl, u4⟩
    have h4 := h3.non u4
    have t4 := t3.trans u4 fun _ _ h => h
    clear u4 h3 t3
    go_wp2_with fail
    refine (nilFree x _ h4.made).mono ?_
    rintro e w5 ⟨rfl, u5⟩
    have h5 := h4.non u5
    have t5 := t4.trans u5 fun _ _ h => h
    clear u5 h4 t4
    go_wp2_with fail
    refine (nilRows x _ h5.made).mono ?_
    rintro e w6 ⟨rfl, u6⟩
    have h6 := h5.non u6
    have t6 := t5.trans u6 fun _ _ h => h
    clear u6 h5 t5
    go_wp2_with fail
    refine (nilCopy x _ h6.made).mono ?_
    rintro e w7 ⟨rfl, u7⟩
    have h7 := h6.non u7
    have t7 := t6.trans u7 fun _ _ h => h
    clear u7 h6 t6
    go_wp2_with fail
    refine (lives07 _).mono ?_
    rintro e w8 ⟨rfl, u8⟩
    have t8 := t7.trans u8 fun _ _ h => h
    go_wp2_with fail
    go_ret
    exact ⟨rfl, t8⟩
  | true =>
    have hN := (cells_of (heap_alloc_new w (.cells #[.int .i64 0, .slice none 0 0] 55))).1 0
    have h0 : Unmade (some ⟨w.heap.size, 0, none⟩) (w.alloc (.cells #[.int .i64 0, .slice none 0 0] 55)) := .inr ⟨_, rfl, hN⟩
    have t0 : Upd Non w (w.alloc (.cells #[.int .i64 0, .slice none 0 0] 55)) := Upd.alloc _ _ _
    generalize hx : some (⟨w.heap.size, 0, none⟩ : Addr) = x at h0
    replace hx := Lib.hid hx
    clear hN
    go_enter Try.func7, Try.ntmps7
    go_wp2_with fail
    rw [hx.out]
    go_wp2_with fail
    refine (nilTake x k _ h0.made).mono ?_
    rintro e w1 ⟨rfl, u1⟩
    have h1 := h0.non u1
    have t1 := t0.trans u1 fun _ _ h => h
    clear u1 h0 t0
    go_wp2_with fail
    refine (nilClaim x i _ h1.made).mono ?_
    rintro e w2 ⟨rfl, u2⟩
    have h2 := h1.non u2
    have t2 := t1.trans u2 fun _ _ h => h
    clear u2 h1 t1
    go_wp2_with fail
    refine (nilGive x i k _ h2.made).mono ?_
    rintro e w3 ⟨rfl, u3⟩
    have h3 := h2.non u3
    have t3 := t2.trans u3 fun _ _ h => h
    clear u3 h2 t2
    go_wp2_with fail
    refine (nilHas x i _ h3.made).mono ?_
    rintro e w4 ⟨rfl, u4⟩
    have h4 := h3.non u4
    have t4 := t3.trans u4 fun _ _ h => h
    clear u4 h3 t3
    go_wp2_with fail
    refine (nilFree x _ h4.made).mono ?_
    rintro e w5 ⟨rfl, u5⟩
    have h5 := h4.non u5
    have t5 := t4.trans u5 fun _ _ h => h
    clear u5 h4 t4
    go_wp2_with fail
    refine (nilRows x _ h5.made).mono ?_
    rintro e w6 ⟨rfl, u6⟩
    have h6 := h5.non u6
    have t6 := t5.trans u6 fun _ _ h => h
    clear u6 h5 t5
    go_wp2_with fail
    refine (nilCopy x _ h6.made).mono ?_
    rintro e w7 ⟨rfl, u7⟩
    have h7 := h6.non u7
    have t7 := t6.trans u7 fun _ _ h => h
    clear u7 h6 t6
    go_wp2_with fail
    refine (lives07 _).mono ?_
    rintro e w8 ⟨rfl, u8⟩
    have t8 := t7.trans u8 fun _ _ h => h
    go_wp2_with fail
    go_ret
    exact ⟨rfl, t8⟩
end Go.Proofs.Yteeppclnmjlcbaa
