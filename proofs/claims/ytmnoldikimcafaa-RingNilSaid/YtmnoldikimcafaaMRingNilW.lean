/- The walk over RingNil. -/
import Derived.Test.YtmnoldikimcafaaMRgM
namespace Go.Proofs.Ytmnoldikimcafaa
open Go.RowKit Go.Amb Go.Shelf
set_option linter.unusedVariables false
set_option linter.unusedSimpArgs false
set_option maxRecDepth 100000
set_option maxHeartbeats 4000000 in
theorem nil06 (s : List UInt8) (n : Int) (mk : Bool) (w : World) : Calls Try.prog 5 #[.string ⟨s.toArray⟩, .int .i64 n, .bool mk] w (Ret (.bool true) w) := by
  have hlv := Lib.hid lives06
  cases mk with
  | false =>
    have hp : NoRing w (.pointer none) := .inl rfl
    have hU := Upd.refl Non w
    go_enter Try.func5, Try.ntmps5
    try dsimp only [List.append]
    go_wp2_with fail
    refine (nOpen _ 0 2 0 0).mono ?_
    rintro en w2 ⟨rfl, hu⟩
    replace hU := hU.trans hu fun _ _ h => h
    replace hp := hp.non hu
    clear hu
    go_wp2_with fail
    refine (nAppend hp s).mono ?_
    rintro en w3 ⟨rfl, hu⟩
    replace hU := hU.trans hu fun _ _ h => h
    replace hp := hp.non hu
    clear hu
    go_wp2_with fail
    refine (nSync hp).mono ?_
    rintro en w4 ⟨rfl, hu⟩
    replace hU := hU.trans hu fun _ _ h => h
    replace hp := hp.non hu
    clear hu
    go_wp2_with fail
    refine (nTruncate hp n).mono ?_
    rintro en w5 ⟨rfl, hu⟩
    replace hU := hU.trans hu fun _ _ h => h
    replace hp := hp.non hu
    clear hu
    go_wp2_with fail
    refine (nRecords hp).mono ?_
    rintro en w6 ⟨rfl, hu⟩
    replace hU := hU.trans hu fun _ _ h => h
    replace hp := hp.non hu
    clear hu
    go_wp2_with fail
    refine (nStart hp).mono ?_
    rintro en w7 ⟨rfl, hu⟩
    replace hU := hU.trans hu fun _ _ h => h
    replace hp := hp.non hu
    clear hu
    go_wp2_with fail
    refine (nNext hp).mono ?_
    rintro en w8 ⟨rfl, hu⟩
    replace hU := hU.trans hu fun _ _ h => h
    replace hp := hp.non hu
    clear hu
    go_wp2_with fail
    refine (nEpoch hp).mono ?_
    rintro en w9 ⟨rfl, hu⟩
    replace hU := hU.trans hu fun _ _ h => h
    replace hp := hp.non hu
    clear hu
    go_wp2_with fail
    refine (nRoom hp).mono ?_
    rintro en w10 ⟨rfl, hu⟩
    replace hU := hU.trans hu fun _ _ h => h
    replace hp := hp.non hu
    clear hu
    go_wp2_with fail
    refine (hlv.out _).mono ?_
    rintro en w12 ⟨rfl, hu⟩
    go_wp2_with fail
    go_ret
    exact ⟨rfl, hU.trans hu fun _ _ h => h⟩
  | true =>
    have hU := Upd.alloc Non w (.cells #[.pointer none, .int .i64 0, .int .i64 0, .int .i64 0, .int .i64 0, .int .i64 0, .slice none 0 0] 43)
    have hp : NoRing (w.alloc (.cells #[.pointer none, .int .i64 0, .int .i64 0, .int .i64 0, .int .i64 0, .int .i64 0, .slice none 0 0] 43)) (.pointer (some ⟨w.heap.size, 0, none⟩)) := .inr ⟨_, rfl, heap_alloc_new w _⟩
    go_enter Try.func5, Try.ntmps5
    try dsimp only [List.append]
    go_wp2_with fail
    refine (nOpen _ 0 2 0 0).mono ?_
    rintro en w2 ⟨rfl, hu⟩
    replace hU := hU.trans hu fun _ _ h => h
    replace hp := hp.non hu
    clear hu
    go_wp2_with fail
    refine (nAppend hp s).mono ?_
    rintro en w3 ⟨rfl, hu⟩
    replace hU := hU.trans hu fun _ _ h => h
    replace hp := hp.non hu
    clear hu
    go_wp2_with fail
    refine (nSync hp).mono ?_
    rintro en w4 ⟨rfl, hu⟩
    replace hU := hU.trans hu fun _ _ h => h
    replace hp := hp.non hu
    clear hu
    go_wp2_with fail
    refine (nTruncate hp n).mono ?_
    rintro en w5 ⟨rfl, hu⟩
    replace hU := hU.trans hu fun _ _ h => h
    replace hp := hp.non hu
    clear hu
    go_wp2_with fail
    refine (nRecords hp).mono ?_
    rintro en w6 ⟨rfl, hu⟩
    replace hU := hU.trans hu fun _ _ h => h
    replace hp := hp.non hu
    clear hu
    go_wp2_with fail
    refine (nStart hp).mono ?_
    rintro en w7 ⟨rfl, hu⟩
    replace hU := hU.trans hu fun _ _ h => h
    replace hp := hp.non hu
    clear hu
    go_wp2_with fail
    refine (nNext hp).mono ?_
    rintro en w8 ⟨rfl, hu⟩
    replace hU := hU.trans hu fun _ _ h => h
    replace hp := hp.non hu
    clear hu
    go_wp2_with fail
    refine (nEpoch hp).mono ?_
    rintro en w9 ⟨rfl, hu⟩
    replace hU := hU.trans hu fun _ _ h => h
    replace hp := hp.non hu
    clear hu
    go_wp2_with fail
    refine (nRoom hp).mono ?_
    rintro en w10 ⟨rfl, hu⟩
    replace hU := hU.trans hu fun _ _ h => h
    replace hp := hp.non hu
    clear hu
    go_wp2_with fail
    refine (hlv.out _).mono ?_
    rintro en w12 ⟨rfl, hu⟩
    go_wp2_with fail
    go_ret
    exact ⟨rfl, hU.trans hu fun _ _ h => h⟩
end Go.Proofs.Ytmnoldikimcafaa
