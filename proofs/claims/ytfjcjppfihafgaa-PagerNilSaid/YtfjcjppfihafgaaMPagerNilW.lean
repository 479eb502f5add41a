/- The walk over PagerNil. -/
import Derived.Test.YtfjcjppfihafgaaMPgL
import Derived.Test.YtfjcjppfihafgaaMPgN
namespace Go.Proofs.Ytfjcjppfihafgaa
open Go.RowKit Go.Amb Go.Shelf
set_option linter.unusedVariables false
set_option linter.unusedSimpArgs false
set_option maxRecDepth 100000
set_option maxHeartbeats 4000000 in
theorem nil09 (i : Int) (a1 : Option Addr) (n1 c1 : Nat) (a2 : Option Addr) (n2 c2 : Nat) (mk : Bool) (w : World) : Calls Try.prog 3 #[.int .i64 i, .slice a1 n1 c1, .slice a2 n2 c2, .bool mk] w (Ret (.bool true) w) := by
  have hlv := Lib.hid lives09
  cases mk with
  | false =>
    have hp : NoPg w (.pointer none) := .inl rfl
    have hU := Upd.refl Non w
    go_enter Try.func3, Try.ntmps3
    go_wp2_with fail
    refine (pNew _ 0 1).mono ?_
    rintro en w2 ⟨rfl, hu⟩
    replace hU := hU.trans hu fun _ _ h => h
    replace hp := hp.non hu
    clear hu
    go_wp2_with fail
    refine (pWrite hp a1 n1 c1).mono ?_
    rintro en w3 ⟨rfl, hu⟩
    replace hU := hU.trans hu fun _ _ h => h
    replace hp := hp.non hu
    clear hu
    go_wp2_with fail
    refine (pRead hp i).mono ?_
    rintro en w4 ⟨rfl, hu⟩
    replace hU := hU.trans hu fun _ _ h => h
    replace hp := hp.non hu
    clear hu
    go_wp2_with fail
    refine (pPages hp).mono ?_
    rintro en w5 ⟨rfl, hu⟩
    replace hU := hU.trans hu fun _ _ h => h
    replace hp := hp.non hu
    clear hu
    go_wp2_with fail
    refine (pRewrite hp i a1 n1 c1).mono ?_
    rintro en w6 ⟨rfl, hu⟩
    replace hU := hU.trans hu fun _ _ h => h
    replace hp := hp.non hu
    clear hu
    go_wp2_with fail
    refine (pRelease hp i).mono ?_
    rintro en w7 ⟨rfl, hu⟩
    replace hU := hU.trans hu fun _ _ h => h
    replace hp := hp.non hu
    clear hu
    go_wp2_with fail
    refine (pSettle hp).mono ?_
    rintro en w8 ⟨rfl, hu⟩
    replace hU := hU.trans hu fun _ _ h => h
    replace hp := hp.non hu
    clear hu
    go_wp2_with fail
    refine (pUndo hp).mono ?_
    rintro en w9 ⟨rfl, hu⟩
    replace hU := hU.trans hu fun _ _ h => h
    replace hp := hp.non hu
    clear hu
    go_wp2_with fail
    refine (pKeep hp a2 n2 c2).mono ?_
    rintro en w10 ⟨rfl, hu⟩
    replace hU := hU.trans hu fun _ _ h => h
    replace hp := hp.non hu
    clear hu
    go_wp2_with fail
    refine (pFree hp).mono ?_
    rintro en w11 ⟨rfl, hu⟩
    replace hU := hU.trans hu fun _ _ h => h
    replace hp := hp.non hu
    clear hu
    go_wp2_with fail
    refine (hlv.out _).mono ?_
    rintro en w12 ⟨rfl, hu⟩
    go_wp2_with fail
    go_ret
    exact ⟨rfl, hU.trans hu fun _ _ h => h⟩
  | true =>
    have hU := Upd.alloc Non w (.cells #[.pointer none, .pointer none, .int .i64 0, .slice none 0 0] 29)
    have hp : NoPg (w.alloc (.cells #[.pointer none, .pointer none, .int .i64 0, .slice none 0 0] 29)) (.pointer (some ⟨w.heap.size, 0, none⟩)) := .inr ⟨_, rfl, heap_alloc_new w _⟩
    go_enter Try.func3, Try.ntmps3
    go_wp2_with fail
    refine (pNew _ 0 1).mono ?_
    rintro en w2 ⟨rfl, hu⟩
    replace hU := hU.trans hu fun _ _ h => h
    replace hp := hp.non hu
    clear hu
    go_wp2_with fail
    refine (pWrite hp a1 n1 c1).mono ?_
    rintro en w3 ⟨rfl, hu⟩
    replace hU := hU.trans hu fun _ _ h => h
    replace hp := hp.non hu
    clear hu
    go_wp2_with fail
    refine (pRead hp i).mono ?_
    rintro en w4 ⟨rfl, hu⟩
    replace hU := hU.trans hu fun _ _ h => h
    replace hp := hp.non hu
    clear hu
    go_wp2_with fail
    refine (pPages hp).mono ?_
    rintro en w5 ⟨rfl, hu⟩
    replace hU := hU.trans hu fun _ _ h => h
    replace hp := hp.non hu
    clear hu
    go_wp2_with fail
    refine (pRewrite hp i a1 n1 c1).mono ?_
    rintro en w6 ⟨rfl, hu⟩
    replace hU := hU.trans hu fun _ _ h => h
    replace hp := hp.non hu
    clear hu
    go_wp2_with fail
    refine (pRelease hp i).mono ?_
    rintro en w7 ⟨rfl, hu⟩
    replace hU := hU.trans hu fun _ _ h => h
    replace hp := hp.non hu
    clear hu
    go_wp2_with fail
    refine (pSettle hp).mono ?_
    rintro en w8 ⟨rfl, hu⟩
    replace hU := hU.trans hu fun _ _ h => h
    replace hp := hp.non hu
    clear hu
    go_wp2_with fail
    refine (pUndo hp).mono ?_
    rintro en w9 ⟨rfl, hu⟩
    replace hU := hU.trans hu fun _ _ h => h
    replace hp := hp.non hu
    clear hu
    go_wp2_with fail
    refine (pKeep hp a2 n2 c2).mono ?_
    rintro en w10 ⟨rfl, hu⟩
    replace hU := hU.trans hu fun _ _ h => h
    replace hp := hp.non hu
    clear hu
    go_wp2_with fail
    refine (pFree hp).mono ?_
    rintro en w11 ⟨rfl, hu⟩
    replace hU := hU.trans hu fun _ _ h => h
    replace hp := hp.non hu
    clear hu
    go_wp2_with fail
    refine (hlv.out _).mono ?_
    rintro en w12 ⟨rfl, hu⟩
    go_wp2_with fail
    go_ret
    exact ⟨rfl, hU.trans hu fun _ _ h => h⟩
theorem nilAny (i : Int) (v1 v2 : Value) (b : List UInt8) (l : List Int) (mk : Bool) (w : World) (h1 : Bytes w v1 b) (h2 : Has w 1 v2 l.length (l.map (.int .i64))) : Calls Try.prog 3 #[.int .i64 i, v1, v2, .bool mk] w (Ret (.bool true) w) := by
  obtain ⟨_, a1, c1, rfl, -⟩ := h1
  obtain ⟨_, a2, c2, rfl, -⟩ := h2
  exact nil09 i _ _ _ _ _ _ mk w
end Go.Proofs.Ytfjcjppfihafgaa
