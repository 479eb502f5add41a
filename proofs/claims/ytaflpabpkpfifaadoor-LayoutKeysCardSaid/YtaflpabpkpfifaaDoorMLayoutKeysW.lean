/- The walk of LayoutKeys. -/
import Derived.Test.YtaflpabpkpfifaaDoorMLyQp
import Derived.Test.YtaflpabpkpfifaaDoorMLyH
import Derived.Test.YtaflpabpkpfifaaDoorMLyI
import Derived.Test.YtaflpabpkpfifaaDoorMLyL
import Derived.Test.YtaflpabpkpfifaaDoorMLyJ
import Derived.Test.YtaflpabpkpfifaaDoorMLsP
namespace Go.Proofs.YtaflpabpkpfifaaDoor
set_option maxRecDepth 100000
open Go.RowKit Go.Amb
set_option linter.unusedVariables false
attribute [local go_sem ↓] Go.wp_at_zero Go.wp_at_succ

theorem span_same (a b : Str) (w : World) : (binOp .eql 34 (.agg #[.string ⟨a.toArray⟩, .string ⟨b.toArray⟩]) (.agg #[.string ⟨a.toArray⟩, .string ⟨b.toArray⟩])).run Tryd.prog w = .ok (.bool true) w := by
  rw [span_eql]
  simp
theorem cells2 {w : World} {b : Nat} {c0 c1 : Value} {t : TypeId} (h : w.heap[b]? = some (.cells #[c0, c1] t (0, 0))) : w.cell? ⟨b, 0, none⟩ = some c0 ∧ w.cell? ⟨b, 1, none⟩ = some c1 :=
  ⟨(cells_of h).1 0, (cells_of h).1 1⟩
set_option maxHeartbeats 4000000 in
theorem keys_any (x : Ky) (nv : Value) (s : Str) (w : World) (hN : Ints w nv x.ns) (hx : KyOk x) :
    Calls Tryd.prog 3 #[kyV x nv, txtV s] w (Ret (.bool true) w) := by
  have hlv := Lib.hid lives21
  have hfe := Lib.hid (fun w' (hu : Upd Non w w') => l21Few x nv w' (hN.upd hu fun _ _ h => h))
  have hA := Lib.hid (fun w' (hu : Upd Non w w') => yKey x nv w' (hN.upd hu fun _ _ h => h) hx.1 hx.2.1 hx.2.2)
  have hB := Lib.hid (fun w' (hu : Upd Non w w') => q21Key x nv w' (hN.upd hu fun _ _ h => h) hx.1 hx.2.1 hx.2.2)
  have hC := Lib.hid (fun w' (hu : Upd Non w w') => ySpan x nv w' (hN.upd hu fun _ _ h => h) hx.1 hx.2.1 hx.2.2)
  have hD := Lib.hid (fun w' (hu : Upd Non w w') => q21Span x nv w' (hN.upd hu fun _ _ h => h) hx.1 hx.2.1 hx.2.2)
  have hE := Lib.hid (fun w' => yParse s w')
  have hF := Lib.hid (fun w' => q21Parse s w')
  have hS := Lib.hid (fun w' (mv mv' : Value) (h1 : Ints w' mv (parseR s).1.ns) (h2 : Ints w' mv' (parseR s).1.ns) => by
    have := q21Same (parseR s).1 (parseR s).1 mv mv' w' h1 h2
    rw [decide_eq_true rfl] at this
    exact this)
  have hgu := span_eqGuard .eql
  generalize hfw : decide (fewK x) = fw at *
  generalize keyR x = a at *
  generalize spanR x = b at *
  generalize parseR s = c at *
  obtain ⟨ta, ea⟩ := a
  obtain ⟨⟨b0, b1⟩, eb⟩ := b
  obtain ⟨⟨ck, cb, co, cns⟩, ec⟩ := c
  obtain ⟨k, xb, xo, ns⟩ := x
  have hsp := span_same b0 b1
  obtain ⟨na, nc, rfl, hnc, hncm, -⟩ := ints_at hN
  clear hx hfw
  unfold kyV spV txtV at *
  simp only at *
  generalize ns.length = nl at *
  go_enter Tryd.func3, Tryd.ntmps3
  go_wp2_with fail
  refine (hfe.out _ ((Upd.refl Non w).then_alloc _)).mono ?_
  rintro e w1 ⟨rfl, hu⟩
  have hbk := hu.heap (heap_alloc_new w (.cells #[.int .i64 k, .string ⟨xb.toArray⟩, .string ⟨xo.toArray⟩, .slice na nl nc] 25)) (fun h => h)
  have hX : Upd Non w w1 := ((Upd.refl Non w).then_alloc _).trans hu fun _ _ h => h
  clear hu
  obtain ⟨x0, x1, x2, x3⟩ := cells4 hbk
  cases fw with
  | false =>
    go_wp2_with fail
    refine (hlv.out _).mono ?_
    rintro e w9 ⟨rfl, hu⟩
    go_wp2_with fail
    go_ret
    exact ⟨rfl, hX.trans hu fun _ _ h => h⟩
  | true =>
    go_wp2_with fail
    refine (hA.out _ hX).mono ?_
    rintro e w2 ⟨rfl, hu⟩
    replace hX := hX.trans hu fun _ _ h => h
    replace hbk := hu.heap hbk fun h => h
    clear hu x0 x1 x2 x3
    obtain ⟨x0, x1, x2, x3⟩ := cells4 hbk
    go_wp2_with fail
    refine (hB.out _ hX).mono ?_
    rintro e w3 ⟨rfl, hu⟩
    replace hX := hX.trans hu fun _ _ h => h
    replace hbk := hu.heap hbk fun h => h
    clear hu x0 x1 x2 x3
    obtain ⟨x0, x1, x2, x3⟩ := cells4 hbk
    go_wp2_with fail
    refine (hC.out _ hX).mono ?_
    rintro e w4 ⟨rfl, hu⟩
    replace hX := hX.trans hu fun _ _ h => h
    replace hbk := hu.heap hbk fun h => h
    clear hu x0 x1 x2 x3
    obtain ⟨x0, x1, x2, x3⟩ := cells4 hbk
    replace hX := hX.then_alloc (.cells #[.string ⟨b0.toArray⟩, .string ⟨b1.toArray⟩] 34)
    replace hbk := (Upd.alloc Non w4 (.cells #[.string ⟨b0.toArray⟩, .string ⟨b1.toArray⟩] 34)).heap hbk fun h => h
    clear x0 x1 x2 x3
    obtain ⟨x0, x1, x2, x3⟩ := cells4 hbk
    go_wp2_with fail
    refine (hD.out _ hX).mono ?_
    rintro e w5 ⟨rfl, hu⟩
    have hb1 := hu.heap (heap_alloc_new w4 _) fun h => h
    replace hX := hX.trans hu fun _ _ h => h
    replace hbk := hu.heap hbk fun h => h
    clear hu x0 x1 x2 x3
    obtain ⟨x0, x1, x2, x3⟩ := cells4 hbk
    have hg1 := heap_lt hb1
    clear hbk x0 x1 x2 x3
    go_wp2_with fail
    refine (hE.out _).mono ?_
    rintro e w6 ⟨mv, rfl, hM, hu⟩
    unfold kyV txtV at *
    obtain ⟨ma, mc, rfl, hml, -, -⟩ := ints_at hM
    simp only at *
    replace hX := (hX.then_alloc _).trans hu fun _ _ h => h
    replace hb1 := hu.heap ((Upd.alloc Non w5 _).heap hb1 fun h => h) fun h => h
    have hb2 := hu.heap (heap_alloc_new w5 _) fun h => h
    have hg2 := heap_lt hb2
    clear hu
    go_wp2_with fail
    refine (hF.out _).mono ?_
    rintro e w7 ⟨mv, rfl, hM2, hu⟩
    unfold kyV txtV at *
    obtain ⟨qa, qc, rfl, hql, -, -⟩ := ints_at hM2
    simp only at *
    replace hX := (hX.then_alloc _).trans hu fun _ _ h => h
    replace hb1 := hu.heap ((Upd.alloc Non w6 _).heap hb1 fun h => h) fun h => h
    replace hb2 := hu.heap ((Upd.alloc Non w6 _).heap hb2 fun h => h) fun h => h
    have hb3 := hu.heap (heap_alloc_new w6 _) fun h => h
    replace hM := (hM.upd (Upd.alloc Non w6 _) fun _ _ h => h).upd hu fun _ _ h => h
    clear hu
    have k1 := fun X => cells2 ((Upd.alloc Non w7 X).heap hb1 fun h => h)
    have k2 := fun X => cells2 ((Upd.alloc Non w7 X).heap hb2 fun h => h)
    have k3 := fun X => cells4 ((Upd.alloc Non w7 X).heap hb3 fun h => h)
    have k10 := fun X => (k1 X).1
    have k11 := fun X => (k1 X).2
    have k20 := fun X => (k2 X).1
    have k21 := fun X => (k2 X).2
    have k30 := fun X => (k3 X).1
    have k31 := fun X => (k3 X).2.1
    have k32 := fun X => (k3 X).2.2.1
    have k33 := fun X => (k3 X).2.2.2
    clear k1 k2 k3 hb1 hb2 hb3
    go_wp2_with fail
    refine (hS.out _ _ _ (hM.upd (Upd.alloc Non w7 _) fun _ _ h => h) (hM2.upd (Upd.alloc Non w7 _) fun _ _ h => h)).mono ?_
    rintro e w8 ⟨rfl, hu⟩
    replace hX := (hX.then_alloc _).trans hu fun _ _ h => h
    go_wp2_with fail
    refine (hlv.out _).mono ?_
    rintro e w9 ⟨rfl, hu⟩
    go_wp2_with fail
    go_ret
    exact ⟨rfl, hX.trans hu fun _ _ h => h⟩
end Go.Proofs.YtaflpabpkpfifaaDoor
