/- The walk over RingRoom. -/
import Derived.Test.YtmnoldikimcafaaMRgT
namespace Go.Proofs.Ytmnoldikimcafaa
open Go.RowKit Go.Amb Go.Shelf
set_option linter.unusedVariables false
set_option linter.unusedSimpArgs false
set_option maxRecDepth 100000
set_option maxHeartbeats 8000000 in
theorem room06 (v : Value) (l : List (List UInt8)) (w : World) (hT : TxtsAt w v l) (h63 : l.length < 9223372036854775808) : Calls Try.prog 4 #[v] w (Ret (.bool true) w) := by
  have hlv := Lib.hid lives06
  have cN := Lib.hid (lvNew 20 (by omega) (by omega) w)
  obtain ⟨a, c, rfl, hx⟩ := txts_at hT
  replace hx := Lib.hid hx
  obtain ⟨N, hN⟩ : ∃ N, l.length = N := ⟨_, rfl⟩
  have hNh := Lib.hid hN
  rw [hN] at h63 ⊢
  clear hN hT
  by_cases h100 : N ≤ 100
  · have h100I : ((100 : Int) < (N : Int)) = False := eq_false (by omega)
    obtain ⟨ro, rok, ry0, ry1⟩ := room_open
    go_enter Try.func4, Try.ntmps4
    go_wp2_with fail
    refine cN.out.mono ?_
    rintro en w1 ⟨D, F1, rfl, L1⟩
    clear cN
    have cO := Lib.hid (rvOpen L1 (by decide) (by decide) 0 20 5 0 (by omega) (by decide) (by omega) (by omega) (by omega) (by omega) ry0 ry1 rok)
    clear rok ry0 ry1
    generalize openS (Dk.new 20) 0 20 5 0 = e0 at *
    generalize Dk.new 20 = d0 at *
    go_wp2_with fail
    refine cO.out.mono ?_
    rintro en w2 ⟨R, G1, rfl, V1, hu2, -⟩
    clear cO L1 hu2 h100I
    go_wp2_with fail
    go_loopw [7] (fun iv wr => ∃ (i : Nat) (F G : Nat → Prop) (d : Dk) (r : Rn), iv = .int .i64 (i : Int) ∧ i ≤ N ∧ Rv w wr R D F G d r ∧ RoomOk d r i) (fun iv _ => N - (intOf iv).toNat)
    case atStart => exact ⟨0, _, _, _, _, rfl, Nat.zero_le _, V1, ro⟩
    case round =>
      clear V1 ro
      obtain ⟨i, F, G, d, r, rfl, hi, hV, hO⟩ := hrel
      by_cases hin : i < N
      · have hinI : (i : Int) < (N : Int) := by omega
        have hi0 : (0 : Int) ≤ (i : Int) := by omega
        have hil : i < l.length := by rw [hNh.out]; exact hin
        obtain ⟨g, off, rfl, x0⟩ := hx.out i hil
        generalize l[i]'hil = s at *
        have y0 := hV.disk.upd.cell x0 fun h => h
        by_cases hs : s.length ≤ 16384
        · have hsI : ((16384 : Int) < (s.length : Int)) = False := eq_false (by omega)
          have b1 := hO.s5
          have b2 := hO.sn
          have b3 := hO.rm
          have b4 := hO.nx
          have hp1 := pieceN_pos s
          have hp2 : pieceN s ≤ 152 := by unfold pieceN; omega
          have hmax : (if (1 : Int) < ((s.length : Int) + 107) / 108 then ((s.length : Int) + 107) / 108 else 1) = ((pieceN s : Nat) : Int) := by unfold pieceN; split <;> omega
          have hfit := hO.fit (i := i) (by omega)
          have hfull := fun hr => hO.full (i := i) (by omega) s hs hr
          have happ := fun hr => hO.app (i := i) (by omega) s hs hr
          have cR := Lib.hid (lRoom hV.ring)
          have cA := Lib.hid (fun w' (hu : Upd Non wr w') => rvAppend (hV.non hu) hfit.1 hfit.2.1 hfit.2.2.1 hfit.2.2.2.1 hfit.2.2.2.2 s)
          have hgone := Lib.hid hO.gone
          rw [show ((r.cn : Nat) : Int) = 20 by rw [hO.cn]; rfl] at cR
          have hcn := hO.cn
          have hw0 : IntKind.i64.wrap ((s.length : Int) + 107) = (s.length : Int) + 107 := IntWalk.i64_in _ ⟨by omega, by omega⟩
          generalize hps : pieceN s = n at *
          by_cases hr : (20 : Int) - (r.nx - r.st) < (n : Int)
          · obtain ⟨e1, e2, e3⟩ := hfull hr
            rw [e1, e2, e3] at cA
            clear happ hfull hfit hO hV
            go_wp2_with fail
            refine cR.out.mono ?_
            rintro en w3 ⟨rfl, hu3⟩
            have y0 := hu3.cell y0 fun h => h
            have hA3 := Lib.hid (cA.out _ hu3)
            have hcnI : ((r.cn : Nat) : Int) = 20 := by rw [hcn]; rfl
            clear cA cR hu3
            go_wp2_with fail
            refine hA3.out.mono ?_
            rintro en w4 ⟨rfl, F4, G4, V4, -⟩
            clear hA3 y0
            have cR4 := Lib.hid (lRoom V4.ring)
            rw [hcnI] at cR4
            go_wp2_with fail
            refine cR4.out.mono ?_
            rintro en w5 ⟨rfl, hu5⟩
            have V5 := V4.non hu5
            have cX := Lib.hid (lNext V5.ring)
            clear cR4 V4 hu5
            go_wp2_with fail
            refine cX.out.mono ?_
            rintro en w6 ⟨rfl, hu6⟩
            have V6 := V5.non hu6
            have cT := Lib.hid (rvTrunc V6)
            clear cX V5 hu6
            go_wp2_with fail
            refine cT.out.mono ?_
            rintro en w7 ⟨rfl, G7, V7⟩
            have cR7 := lRoom V7.ring
            rw [show (((gone r).cn : Nat) : Int) - ((gone r).nx - (gone r).st) = 20 by show ((r.cn : Nat) : Int) - (r.nx - r.nx) = 20; rw [hcnI]; omega] at cR7
            replace cR7 := Lib.hid cR7
            clear cT V6
            go_wp2_with fail
            refine cR7.out.mono ?_
            rintro en w8 ⟨rfl, hu8⟩
            have V8 := V7.non hu8
            have cC := lRecords V8.ring
            rw [show (gone r).L = [] from rfl] at cC
            unfold RecsTo at cC
            replace cC := Lib.hid cC
            clear cR7 V7 hu8
            go_wp2_with fail
            refine cC.out.mono ?_
            rintro en w9 ⟨vx, rfl, hvx, hu9⟩
            obtain ⟨_, xa, xc, rfl, -⟩ := has_of_owns hvx
            have V9 := V8.non hu9
            clear cC V8 hvx hu9
            go_wp2_with fail
            go_roundw
            case rel => exact ⟨i + 1, _, _, _, _, by go_num, by omega, V9, hgone.out⟩
            case measure => simp [intOf]; omega
          · obtain ⟨e1, e2, e3, e4⟩ := happ hr
            rw [e1] at cA
            generalize appDs d r s = d' at *
            generalize appRs r s = r' at *
            clear happ hfull hfit hO hV hgone
            go_wp2_with fail
            refine cR.out.mono ?_
            rintro en w3 ⟨rfl, hu3⟩
            have y0 := hu3.cell y0 fun h => h
            have hA3 := Lib.hid (cA.out _ hu3)
            have hcnI : ((r.cn : Nat) : Int) = 20 := by rw [hcn]; rfl
            clear cA cR hu3
            go_wp2_with fail
            refine hA3.out.mono ?_
            rintro en w4 ⟨rfl, F4, G4, V4, -⟩
            clear hA3 y0
            have cR4 := lRoom V4.ring
            rw [show ((r'.cn : Nat) : Int) = 20 by rw [e2.cn]; rfl, e3, e4] at cR4
            replace cR4 := Lib.hid cR4
            have hwA : IntKind.i64.wrap ((20 : Int) - (r.nx - r.st) - (n : Int)) = (20 : Int) - (r.nx - r.st) - (n : Int) := IntWalk.i64_in _ ⟨by omega, by omega⟩
            have heA : ((20 : Int) - (r.nx + (n : Int) - r.st) != (20 : Int) - (r.nx - r.st) - (n : Int)) = false := by simp; omega
            have heB : ((20 : Int) - (r.nx + (n : Int) - r.st) = (20 : Int) - (r.nx - r.st) - (n : Int)) = True := eq_true (by omega)
            go_wp2_with fail
            refine cR4.out.mono ?_
            rintro en w5 ⟨rfl, hu5⟩
            have V5 := V4.non hu5
            have cX := lNext V5.ring
            rw [e3] at cX
            replace cX := Lib.hid cX
            clear cR4 V4 hu5
            go_wp2_with fail
            refine cX.out.mono ?_
            rintro en w6 ⟨rfl, hu6⟩
            have V6 := V5.non hu6
            have cT := lStart V6.ring
            rw [e4] at cT
            replace cT := Lib.hid cT
            clear cX V5 hu6
            go_wp2_with fail
            refine cT.out.mono ?_
            rintro en w7 ⟨rfl, hu7⟩
            have V7 := V6.non hu7
            have cR7 := lRoom V7.ring
            rw [show ((r'.cn : Nat) : Int) = 20 by rw [e2.cn]; rfl, e3, e4] at cR7
            replace cR7 := Lib.hid cR7
            have hwB : IntKind.i64.wrap (r.nx + (n : Int) - r.st) = r.nx + (n : Int) - r.st := IntWalk.i64_in _ ⟨by omega, by omega⟩
            have hwC : IntKind.i64.wrap ((20 : Int) - ((20 : Int) - (r.nx + (n : Int) - r.st))) = (20 : Int) - ((20 : Int) - (r.nx + (n : Int) - r.st)) := IntWalk.i64_in _ ⟨by omega, by omega⟩
            have heC : (r.nx + (n : Int) - r.st != (20 : Int) - ((20 : Int) - (r.nx + (n : Int) - r.st))) = false := by simp; omega
            clear cT V6 hu7
            go_wp2_with fail
            refine cR7.out.mono ?_
            rintro en w8 ⟨rfl, hu8⟩
            have V8 := V7.non hu8
            clear cR7 V7 hu8
            go_wp2_with fail
            go_roundw
            case rel => exact ⟨i + 1, _, _, _, _, by go_num, by omega, V8, e2⟩
            case measure => simp [intOf]; omega
        · have hsI : (16384 : Int) < (s.length : Int) := by omega
          have hU := hV.disk.upd
          go_wp2_with fail
          refine (hlv.out _).mono ?_
          rintro en wl ⟨rfl, hul⟩
          go_wp2_with fail
          go_ret
          exact ⟨rfl, hU.trans hul fun _ _ h => h⟩
      · obtain rfl : i = N := by omega
        have hinI : ¬ (i : Int) < (i : Int) := by omega
        have hU := hV.disk.upd
        go_wp2_with fail
        refine (hlv.out _).mono ?_
        rintro en wl ⟨rfl, hul⟩
        go_wp2_with fail
        go_ret
        exact ⟨rfl, hU.trans hul fun _ _ h => h⟩
  · have h100I : (100 : Int) < (N : Int) := by omega
    go_enter Try.func4, Try.ntmps4
    go_wp2_with fail
    refine cN.out.mono ?_
    rintro en w1 ⟨D, F1, rfl, L1⟩
    clear cN
    have hU := L1.upd
    go_wp2_with fail
    refine (hlv.out _).mono ?_
    rintro en wl ⟨rfl, hul⟩
    go_wp2_with fail
    go_ret
    exact ⟨rfl, hU.trans hul fun _ _ h => h⟩
end Go.Proofs.Ytmnoldikimcafaa
