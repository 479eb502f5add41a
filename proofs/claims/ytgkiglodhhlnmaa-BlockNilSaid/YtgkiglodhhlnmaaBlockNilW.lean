/- The walk over BlockNil. -/
import Derived.Test.YtgkiglodhhlnmaaBlO
namespace Go.Proofs.Ytgkiglodhhlnmaa
open Go.RowKit Go.Amb Go.Shelf
set_option linter.unusedVariables false
set_option linter.unusedSimpArgs false
set_option maxRecDepth 100000
theorem lBlockNil (i : Int) (a1 : Option Addr) (n1 c1 : Nat) (a2 : Option Addr) (n2 c2 : Nat) (made : Bool) (w : World) : Calls Try.prog 7 #[.int .i64 i, .slice a1 n1 c1, .slice a2 n2 c2, .bool made] w (Ret (.bool true) w) := by
  cases made with
  | false =>
    have hN : NoDisk w (.pointer none) := .inl rfl
    go_enter Try.func7, Try.ntmps7
    have cR := Lib.hid (fun w' (hu : Upd Non w w') => nRead (hN.non hu) i)
    have cW := Lib.hid (fun w' (hu : Upd Non w w') => nWrite (hN.non hu) i a1 n1 c1)
    have cF := Lib.hid (fun w' (hu : Upd Non w w') => nFlush (hN.non hu))
    have cA := Lib.hid (fun w' (hu : Upd Non w w') => nArm (hN.non hu) i)
    have cC := Lib.hid (fun w' (hu : Upd Non w w') => nCrash (hN.non hu) a2 n2 c2)
    have cS := Lib.hid (fun w' (hu : Upd Non w w') => nSize (hN.non hu))
    have cP := Lib.hid (fun w' (hu : Upd Non w w') => nPending (hN.non hu))
    have cD := Lib.hid (fun w' (hu : Upd Non w w') => nDead (hN.non hu))
    have cY := Lib.hid (fun w' (hu : Upd Non w w') => nCopy (hN.non hu))
    clear hN
    go_wp2_with fail
    have hU0 := Upd.refl Non w
    refine (cR.out _ hU0).mono ?_
    rintro en w2 ⟨rfl, hu⟩
    have hU1 := hU0.trans hu fun _ _ h => h
    clear hu cR hU0
    simp only []
    go_wp2_with fail
    refine (cW.out _ hU1).mono ?_
    rintro en w3 ⟨rfl, hu⟩
    have hU2 := hU1.trans hu fun _ _ h => h
    clear hu cW hU1
    simp only []
    go_wp2_with fail
    refine (cF.out _ hU2).mono ?_
    rintro en w4 ⟨rfl, hu⟩
    have hU3 := hU2.trans hu fun _ _ h => h
    clear hu cF hU2
    simp only []
    go_wp2_with fail
    refine (cA.out _ hU3).mono ?_
    rintro en w5 ⟨rfl, hu⟩
    have hU4 := hU3.trans hu fun _ _ h => h
    clear hu cA hU3
    simp only []
    go_wp2_with fail
    refine (cC.out _ hU4).mono ?_
    rintro en w6 ⟨rfl, hu⟩
    have hU5 := hU4.trans hu fun _ _ h => h
    clear hu cC hU4
    simp only []
    go_wp2_with fail
    refine (cS.out _ hU5).mono ?_
    rintro en w7 ⟨rfl, hu⟩
    have hU6 := hU5.trans hu fun _ _ h => h
    clear hu cS hU5
    simp only []
    go_wp2_with fail
    refine (cP.out _ hU6).mono ?_
    rintro en w8 ⟨rfl, hu⟩
    have hU7 := hU6.trans hu fun _ _ h => h
    clear hu cP hU6
    simp only []
    go_wp2_with fail
    refine (cD.out _ hU7).mono ?_
    rintro en w9 ⟨rfl, hu⟩
    have hU8 := hU7.trans hu fun _ _ h => h
    clear hu cD hU7
    simp only []
    go_wp2_with fail
    refine (cY.out _ hU8).mono ?_
    rintro en w10 ⟨rfl, hu⟩
    have hU9 := hU8.trans hu fun _ _ h => h
    clear hu cY hU8
    simp only []
    go_wp2_with fail
    refine (lives04 _).mono ?_
    rintro en w20 ⟨rfl, hu⟩
    have hU20 := hU9.trans hu fun _ _ h => h
    simp only []
    go_wp2_with fail
    go_ret
    exact ⟨rfl, hU20⟩
  | true =>
    have hN : NoDisk (w.alloc (.cells #[.slice none 0 0, .slice none 0 0, .int .i64 0, .bool false] 60)) (.pointer (some ⟨w.heap.size, 0, none⟩)) := .inr ⟨_, rfl, heap_alloc_new _ _⟩
    go_enter Try.func7, Try.ntmps7
    have cR := Lib.hid (fun w' (hu : Upd Non (w.alloc (.cells #[.slice none 0 0, .slice none 0 0, .int .i64 0, .bool false] 60)) w') => nRead (hN.non hu) i)
    have cW := Lib.hid (fun w' (hu : Upd Non (w.alloc (.cells #[.slice none 0 0, .slice none 0 0, .int .i64 0, .bool false] 60)) w') => nWrite (hN.non hu) i a1 n1 c1)
    have cF := Lib.hid (fun w' (hu : Upd Non (w.alloc (.cells #[.slice none 0 0, .slice none 0 0, .int .i64 0, .bool false] 60)) w') => nFlush (hN.non hu))
    have cA := Lib.hid (fun w' (hu : Upd Non (w.alloc (.cells #[.slice none 0 0, .slice none 0 0, .int .i64 0, .bool false] 60)) w') => nArm (hN.non hu) i)
    have cC := Lib.hid (fun w' (hu : Upd Non (w.alloc (.cells #[.slice none 0 0, .slice none 0 0, .int .i64 0, .bool false] 60)) w') => nCrash (hN.non hu) a2 n2 c2)
    have cS := Lib.hid (fun w' (hu : Upd Non (w.alloc (.cells #[.slice none 0 0, .slice none 0 0, .int .i64 0, .bool false] 60)) w') => nSize (hN.non hu))
    have cP := Lib.hid (fun w' (hu : Upd Non (w.alloc (.cells #[.slice none 0 0, .slice none 0 0, .int .i64 0, .bool false] 60)) w') => nPending (hN.non hu))
    have cD := Lib.hid (fun w' (hu : Upd Non (w.alloc (.cells #[.slice none 0 0, .slice none 0 0, .int .i64 0, .bool false] 60)) w') => nDead (hN.non hu))
    have cY := Lib.hid (fun w' (hu : Upd Non (w.alloc (.cells #[.slice none 0 0, .slice none 0 0, .int .i64 0, .bool false] 60)) w') => nCopy (hN.non hu))
    clear hN
    go_wp2_with fail
    have hU0 := Upd.refl Non (w.alloc (.cells #[.slice none 0 0, .slice none 0 0, .int .i64 0, .bool false] 60))
    refine (cR.out _ hU0).mono ?_
    rintro en w2 ⟨rfl, hu⟩
    have hU1 := hU0.trans hu fun _ _ h => h
    clear hu cR hU0
    simp only []
    go_wp2_with fail
    refine (cW.out _ hU1).mono ?_
    rintro en w3 ⟨rfl, hu⟩
    have hU2 := hU1.trans hu fun _ _ h => h
    clear hu cW hU1
    simp only []
    go_wp2_with fail
    refine (cF.out _ hU2).mono ?_
    rintro en w4 ⟨rfl, hu⟩
    have hU3 := hU2.trans hu fun _ _ h => h
    clear hu cF hU2
    simp only []
    go_wp2_with fail
    refine (cA.out _ hU3).mono ?_
    rintro en w5 ⟨rfl, hu⟩
    have hU4 := hU3.trans hu fun _ _ h => h
    clear hu cA hU3
    simp only []
    go_wp2_with fail
    refine (cC.out _ hU4).mono ?_
    rintro en w6 ⟨rfl, hu⟩
    have hU5 := hU4.trans hu fun _ _ h => h
    clear hu cC hU4
    simp only []
    go_wp2_with fail
    refine (cS.out _ hU5).mono ?_
    rintro en w7 ⟨rfl, hu⟩
    have hU6 := hU5.trans hu fun _ _ h => h
    clear hu cS hU5
    simp only []
    go_wp2_with fail
    refine (cP.out _ hU6).mono ?_
    rintro en w8 ⟨rfl, hu⟩
    have hU7 := hU6.trans hu fun _ _ h => h
    clear hu cP hU6
    simp only []
    go_wp2_with fail
    refine (cD.out _ hU7).mono ?_
    rintro en w9 ⟨rfl, hu⟩
    have hU8 := hU7.trans hu fun _ _ h => h
    clear hu cD hU7
    simp only []
    go_wp2_with fail
    refine (cY.out _ hU8).mono ?_
    rintro en w10 ⟨rfl, hu⟩
    have hU9 := hU8.trans hu fun _ _ h => h
    clear hu cY hU8
    simp only []
    go_wp2_with fail
    refine (lives04 _).mono ?_
    rintro en w20 ⟨rfl, hu⟩
    have hU20 := hU9.trans hu fun _ _ h => h
    simp only []
    go_wp2_with fail
    go_ret
    exact ⟨rfl, (Upd.alloc Non w _).trans hU20 fun _ _ h => h⟩
theorem lBlockNilV (i : Int) (v1 : Value) (l1 : List UInt8) (v2 : Value) (n2 : Nat) (l2 : List Value) (made : Bool) (w : World) (h1 : Bytes w v1 l1) (h2 : Has w 1 v2 n2 l2) : Calls Try.prog 7 #[.int .i64 i, v1, v2, .bool made] w (Ret (.bool true) w) := by
  obtain ⟨_, a1, c1, rfl, -⟩ := h1
  obtain ⟨_, a2, c2, rfl, -⟩ := h2
  exact lBlockNil _ _ _ _ _ _ _ _ _
end Go.Proofs.Ytgkiglodhhlnmaa
