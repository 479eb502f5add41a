/- The reference point: a ring lives. -/
import Derived.Test.YtmnoldikimcafaaMRgL
import Derived.Test.YtmnoldikimcafaaMSlI
namespace Go.Proofs.Ytmnoldikimcafaa
open Go.RowKit Go.Amb Go.Shelf
set_option linter.unusedVariables false
set_option linter.unusedSimpArgs false
set_option maxRecDepth 100000
theorem Lv.keep {w0 w w' : World} {D : Nat} {F F' Fc : Nat → Prop} {dc : Dk} (h : Lv w0 D w Fc dc) (hk : Kp w F w' F') (ha : ∀ k, Fc k → ¬ F k) (hu : Upd Non w0 w') : Lv w0 D w' Fc dc ∧ ∀ k, Fc k → ¬ F' k :=
  ⟨⟨h.at_.upd hk.upd ha, hu, h.own⟩, fun k hc hF => (hk.own k hF).elim (ha k hc) fun h' => by have := h.at_.lt k hc; omega⟩
set_option maxHeartbeats 8000000 in
theorem lives06 (w : World) : Calls Try.prog 7 #[] w (Ret (.bool true) w) := by
  have cN := Lib.hid (lvNew 5 (by omega) (by omega) w)
  go_enter Try.func7, Try.ntmps7
  go_wp2_with fail
  refine cN.out.mono ?_
  rintro en w1 ⟨D, F1, rfl, L1⟩
  clear cN
  have cO := Lib.hid (rvOpen L1 (by decide) (by decide) 1 4 0 0 (by omega) (by decide) (by omega) (by omega) (by omega) (by omega) y0.1 y0.2 ok0)
  rw [show openS (Dk.new 5) 1 4 0 0 = e0 from rfl] at cO
  go_wp2_with fail
  refine cO.out.mono ?_
  rintro en w2 ⟨R, G1, rfl, V1, hu2, -⟩
  clear cO L1
  have cA := Lib.hid (rvAppend V1 fit0.n fit0.dd fit0.f fit0.fc fit0.l [97])
  rw [show appDs (Dk.new 5) e0 [97] = f1 from rfl, show appRs e0 [97] = e1 from rfl] at cA
  go_wp2_with fail
  refine cA.out.mono ?_
  rintro en w3 ⟨rfl, F3, G3, V3, -⟩
  clear cA V1
  have cA := Lib.hid (rvAppend V3 fit1.n fit1.dd fit1.f fit1.fc fit1.l [98])
  rw [show appDs f1 e1 [98] = f2 from rfl, show appRs e1 [98] = e2 from rfl] at cA
  go_wp2_with fail
  refine cA.out.mono ?_
  rintro en w4 ⟨rfl, F4, G4, V4, -⟩
  clear cA V3
  have cS := Lib.hid (rvSync V4 pn.1)
  rw [show f2.flush.1 = f3 from rfl, pn.2.2.2.2.1] at cS
  go_wp2_with fail
  refine cS.out.mono ?_
  rintro en w5 ⟨rfl, F5, V5, -⟩
  clear cS V4
  have cA := Lib.hid (rvAppend V5 fit2.n fit2.dd fit2.f fit2.fc fit2.l [99])
  rw [show appDs f3 e2 [99] = f4 from rfl, show appRs e2 [99] = e3 from rfl] at cA
  go_wp2_with fail
  refine cA.out.mono ?_
  rintro en w6 ⟨rfl, F6, G6, V6, -⟩
  clear cA V5
  have L6 := V6.disk
  clear V6
  have cC := Lib.hid (lCopy L6.at_ pn.2.1)
  go_wp2_with fail
  refine cC.out.mono ?_
  rintro en w7 ⟨C, Fc, rfl, hC, hu7, hFc⟩
  clear cC
  have L7 := L6.non hu7
  have ap7 : ∀ k, Fc k → ¬ F6 k := fun k hk hF => by have h1 := hFc k hk; have h2 := L6.at_.lt k hF; omega
  have C7 : Lv w C w7 Fc f4 := ⟨hC, L7.upd, fun k hk => Nat.le_trans L6.upd.size (hFc k hk)⟩
  clear L6 hC hu7 hFc
  have cK := Lib.hid (lvCrash L7 pn.2.1 (.slice none 0 0) [] (Has.nil _ _) (fun h => absurd h (by decide)))
  rw [show f4.crash [] = fA from rfl] at cK
  go_wp2_with fail
  refine cK.out.mono ?_
  rintro en w8 ⟨rfl, F8, L8, k8⟩
  obtain ⟨C8, ap8⟩ := C7.keep k8 ap7 L8.upd
  clear cK L7 C7 ap7 k8
  have hA8 : Upd Non w8 (w8.alloc (.cells #[.int .i64 0] 3)) := Upd.alloc _ _ _
  have hI8 : Ints (w8.alloc (.cells #[.int .i64 0] 3)) (.slice (some ⟨w8.heap.size, 0, none⟩) 1 1) [0] := has_new w8 [.int .i64 0] 3 1 1 rfl (by decide)
  have cK := Lib.hid (lvCrash (C8.non hA8) pn.2.1 _ [0] hI8 (fun _ k hk hF => by have := C8.at_.lt k hF; have := at_of hk; omega))
  rw [show f4.crash [0] = fB from rfl] at cK
  go_wp2_with fail
  refine cK.out.mono ?_
  rintro en w9 ⟨rfl, F9, C9, k9⟩
  have ap8' : ∀ k, F8 k → ¬ Fc k := fun k h1 h2 => ap8 k h2 h1
  obtain ⟨L9, ap9⟩ := (L8.non hA8).keep k9 ap8' C9.upd
  clear cK L8 C8 ap8 ap8' k9 hI8 hA8
  have cO := Lib.hid (rvOpen L9 pn.2.2.1 pn.2.2.2.2.2.1 1 4 0 0 (by omega) pn.2.2.2.2.2.2.2.1 (by omega) (by omega) (by omega) (by omega) yA.1 yA.2 okA)
  rw [show openS fA 1 4 0 0 = eA from rfl] at cO
  go_wp2_with fail
  refine cO.out.mono ?_
  rintro en w10 ⟨Rx, Gx, rfl, X1, hu10, -⟩
  have C10 := C9.non hu10
  clear cO L9 C9 hu10
  have cO := Lib.hid (rvOpen C10 pn.2.2.2.1 pn.2.2.2.2.2.2.1 1 4 0 0 (by omega) pn.2.2.2.2.2.2.2.2 (by omega) (by omega) (by omega) (by omega) yB.1 yB.2 okB)
  rw [show openS fB 1 4 0 0 = eB from rfl] at cO
  go_wp2_with fail
  refine cO.out.mono ?_
  rintro en w11 ⟨Ry, Gy, rfl, Y1, hu11, -⟩
  have X2 := X1.ring.non hu11
  clear cO C10 X1 hu11
  have cR := Lib.hid (lRecords X2)
  have cX := Lib.hid (fun w' (hu : Upd Non w11 w') => lNext (X2.non hu))
  have cE := Lib.hid (fun w' (hu : Upd Non w11 w') => lEpoch (X2.non hu))
  rw [vA.2.1] at cX
  rw [vA.2.2] at cE
  unfold RecsTo at cR
  rw [vA.1] at cR
  clear X2
  go_wp2_with fail
  refine cR.out.mono ?_
  rintro en w12 ⟨vx, rfl, hvx, hu12⟩
  clear cR
  obtain ⟨_, xa, xc, rfl, -⟩ := has_of_owns hvx
  clear hvx
  go_wp2_with fail
  refine (cX.out _ hu12).mono ?_
  rintro en w13 ⟨rfl, hu13⟩
  have hU13 := hu12.trans hu13 fun _ _ h => h
  clear cX hu12 hu13
  go_wp2_with fail
  refine (cE.out _ hU13).mono ?_
  rintro en w14 ⟨rfl, hu14⟩
  have Y2 := Y1.non (hU13.trans hu14 fun _ _ h => h)
  clear cE hu14 hU13 Y1
  have cR := Lib.hid (lRecords Y2.ring)
  unfold RecsTo at cR
  rw [vB.1] at cR
  go_wp2_with fail
  refine cR.out.mono ?_
  rintro en w15 ⟨vy, rfl, hvy, hu15⟩
  clear cR
  obtain ⟨_, ya, yc, rfl, -⟩ := has_of_owns hvy
  have Y3 := Y2.non hu15
  clear Y2 hvy hu15
  have hmk : (Instr.makeSlice 50 (.int .i64 300) (.int .i64 300)).run Try.prog w15 = .ok (.slice (some ⟨w15.heap.size, 0, none⟩) 300 300) (w15.alloc (.cells (Array.replicate 300 (.int .u8 0)) 5)) := run_make1 Try.underlying50 (show (Try.prog.info? 5).map (fun i => (i.zero, i.size, i.bytes)) = some (some (.int .u8 0), 1, 1) from rfl) rfl 300 (by omega) (by omega) w15
  have hby : Bytes (w15.alloc (.cells (Array.replicate 300 (.int .u8 0)) 5)) (.slice (some ⟨w15.heap.size, 0, none⟩) 300 300) (List.replicate 300 0) := by
    have := has_new w15 (bc (List.replicate 300 0)) 5 1 300 (by decide) (by unfold maxLen; omega)
    rw [bc_rep] at this
    exact this
  have hst := run_str (P := Try.prog) _ 50 9 5 Try.underlying50 Try.underlying5 Try.underlying9 _ _ hby
  have Y4 := Y3.non (Upd.alloc Non w15 (.cells (Array.replicate 300 (.int .u8 0)) 5))
  have hB := vB.2.1
  have cA := Lib.hid (rvAppend Y4 fitB.n fitB.dd fitB.f fitB.fc fitB.l (List.replicate 300 0))
  unfold appDs appRs at cA
  rw [hB] at cA
  simp only [show ¬ ((11 : Int) = 0) from by decide, if_false] at cA
  clear hB Y3 Y4 hby
  generalize (List.replicate 300 0 : List UInt8) = r9 at hst cA
  go_wp2_with fail
  refine cA.out.mono ?_
  rintro en w16 ⟨rfl, F16, G16, Y5, -⟩
  have cM := Lib.hid (lRoom Y5.ring)
  rw [vB.2.2] at cM
  have hU := Y5.disk.upd
  clear Y5 cA hst hmk
  go_wp2_with fail
  refine cM.out.mono ?_
  rintro en w17 ⟨rfl, hu17⟩
  have hU2 := hU.trans hu17 fun _ _ h => h
  go_wp2_with fail
  go_ret
  exact ⟨rfl, hU2⟩
end Go.Proofs.Ytmnoldikimcafaa
