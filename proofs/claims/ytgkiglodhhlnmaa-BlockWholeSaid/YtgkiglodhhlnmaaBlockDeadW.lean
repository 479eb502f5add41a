/- The walk over BlockDead. -/
import Derived.Test.YtgkiglodhhlnmaaBlR
namespace Go.Proofs.Ytgkiglodhhlnmaa
open Go.RowKit Go.Amb Go.Shelf
set_option linter.unusedVariables false
set_option linter.unusedSimpArgs false
set_option maxRecDepth 100000
section
variable {w0 w : World} {D : Nat} {F : Nat → Prop} {d : Dk}
theorem lvPending (h : Lv w0 D w F d) : Calls Try.prog 15 #[.pointer (some ⟨D, 0, none⟩)] w (fun en w' => en = .returned (.int .i64 (d.P.length : Nat)) ∧ Lv w0 D w' F d) :=
  (lPending h.at_).mono fun en w' ⟨he, hu⟩ => ⟨he, h.non hu⟩
theorem lvDead (h : Lv w0 D w F d) : Calls Try.prog 16 #[.pointer (some ⟨D, 0, none⟩)] w (fun en w' => en = .returned (.bool d.dd) ∧ Lv w0 D w' F d) :=
  (lDead h.at_).mono fun en w' ⟨he, hu⟩ => ⟨he, h.non hu⟩
/-- Many calls that a dead disk refuses. -/
theorem gRead (h : Lv w0 D w F d) (hg : Gone d) (hP : d.P.length ≤ 1000000) (i : Int) : Calls Try.prog 14 #[.pointer (some ⟨D, 0, none⟩), .int .i64 i] w (fun en w' => en = .returned (.tuple #[.slice none 0 0, .int .i64 20]) ∧ Lv w0 D w' F d) := by
  have := lReadNo h.at_ i (by rw [hg.within i]; omega)
  rw [hg.within i] at this
  exact this.mono fun en w' ⟨he, hu⟩ => ⟨he, h.non hu⟩
theorem gFlush (h : Lv w0 D w F d) (hg : Gone d) (hP : d.P.length ≤ 1000000) : Calls Try.prog 11 #[.pointer (some ⟨D, 0, none⟩)] w (fun en w' => en = .returned (.int .i64 20) ∧ ∃ F', Lv w0 D w' F' d) := by
  have := lvFlush h hP
  rw [hg.flush] at this
  exact this.mono fun en w' ⟨he, F', hL, _⟩ => ⟨he, F', hL⟩
theorem gWrite (h : Lv w0 D w F d) (hg : Gone d) (hP : d.P.length ≤ 1000000) (i : Int) : Calls Try.prog 10 #[.pointer (some ⟨D, 0, none⟩), .int .i64 i, .slice none 0 0] w (fun en w' => en = .returned (.int .i64 20) ∧ ∃ F', Lv w0 D w' F' d) := by
  have := lvWrite h hP i [] (.slice none 0 0) (Has.nil _ _) (fun k hk => by simp [At, Value.ownBlock] at hk)
  rw [hg.write] at this
  exact this.mono fun en w' ⟨he, F', hL, _⟩ => ⟨he, F', hL⟩
theorem gArm (h : Lv w0 D w F d) (hg : Gone d) : Calls Try.prog 13 #[.pointer (some ⟨D, 0, none⟩), .int .i64 5] w (fun en w' => en = .returned (.int .i64 20) ∧ ∃ F', Lv w0 D w' F' d) := by
  have := lvArm h 5 (by omega)
  rw [hg.arm] at this
  exact this.mono fun en w' ⟨he, F', hL, _⟩ => ⟨he, F', hL⟩
end
set_option maxHeartbeats 20000000 in
theorem lBlockDead (v1 : Value) (l1 : List Act4) (n m : Int) (w : World) (hA1 : Acts w v1 l1) : Calls Try.prog 5 #[v1, .int .i64 n, .int .i64 m] w (Ret (.bool true) w) := by
  have cB := Lib.hid (lBegun v1 l1 w hA1)
  have hform1 : ∃ a m c, v1 = .slice a m c := by obtain ⟨_, a, c, rfl, -⟩ := hA1.has; exact ⟨_, _, _, rfl⟩
  obtain ⟨ja, jm, jc, rfl⟩ := hform1
  replace hA1 := Lib.hid hA1
  by_cases hb : (0 ≤ n ∧ n ≤ 50) ∧ 0 ≤ m ∧ m ≤ 50
  · obtain ⟨⟨hn0, hn50⟩, hm0, hm50⟩ := hb
    obtain ⟨n, rfl⟩ := Int.eq_ofNat_of_zero_le hn0
    obtain ⟨m, rfl⟩ := Int.eq_ofNat_of_zero_le hm0
    have q1 : ((n : Int) < 0) = False := eq_false (by omega)
    have q2 : ((50 : Int) < (n : Int)) = False := eq_false (by omega)
    have q3 : ((m : Int) < 0) = False := eq_false (by omega)
    have q4 : ((50 : Int) < (m : Int)) = False := eq_false (by omega)
    have q2' : (50 < n) = False := eq_false (by omega)
    have q4' : (50 < m) = False := eq_false (by omega)
    have hnH : Hid (n ≤ 50) := Lib.hid (by omega)
    have hmH : Hid (m ≤ 50) := Lib.hid (by omega)
    clear hn0 hn50 hm0 hm50
    have kc := fun (w : World) (C : Array Value) (n c : Nat) => Lib.run_convert_bytes_const (P := Try.prog) w 30 5 C n c Try.underlying30 Try.underlying5
    go_enter Try.func5, Try.ntmps5
    go_wp2_with fail
    refine cB.out.mono ?_
    rintro en w1 ⟨D, F1, rfl, L1⟩
    have hK0 := begunD_K l1 (min l1.length 200)
    have hP0 := begunD_P l1 (min l1.length 200)
    obtain ⟨d0, hd0⟩ : ∃ d0, begunD l1 (min l1.length 200) = d0 := ⟨_, rfl⟩
    rw [hd0] at L1 hK0 hP0
    clear hd0 cB
    have cC := Lib.hid (lvCrash L1 (by omega) (.slice none 0 0) [] (Has.nil _ _) (fun _ k hk => by simp [At, Value.ownBlock] at hk))
    clear L1
    simp only []
    go_wp2_with fail
    refine cC.out.mono ?_
    rintro en w2 ⟨rfl, F2, L2, -⟩
    have cA := Lib.hid (lvArm L2 (n : Int) (by have := hnH.out; omega))
    have hF0 := fused_init d0 n hK0
    have hP1 : ((d0.crash []).arm n).1.P.length = 0 := by rw [arm_P]; rfl
    obtain ⟨d1, hd1⟩ : ∃ d1, ((d0.crash []).arm n).1 = d1 := ⟨_, rfl⟩
    rw [hd1] at cA hF0 hP1
    clear L2 cC hd1
    simp only []
    go_wp2_with fail
    refine cA.out.mono ?_
    rintro en w3 ⟨rfl, F3, L3, -⟩
    replace L3 := Lib.hid L3
    replace hF0 := Lib.hid hF0
    replace hP1 := Lib.hid hP1
    clear cA
    simp only []
    go_wp2_with fail
    go_loopw [8] (fun iv wr => ∃ (k : Nat) (F : Nat → Prop) (d : Dk), iv = .int .i64 (k : Int) ∧ k ≤ n ∧ Lv w D wr F d ∧ Fused d (n - k) ∧ d.P.length ≤ k) (fun iv _ => n - (intOf iv).toNat)
    case atStart => exact ⟨0, F3, d1, rfl, by omega, L3.out, by simpa using hF0.out, by have := hP1.out; omega⟩
    case round =>
      clear L3 hF0 hP1
      obtain ⟨k, F, d, rfl, hkn, L, hF, hP⟩ := hrel
      by_cases hin : k < n
      · have hin' : (k : Int) < (n : Int) := by omega
        have hk50n : k < 50 := by have := hnH.out; omega
        have hk50 : Hid (k < 50) := Lib.hid hk50n
        have hPk : d.P.length ≤ 1000000 := by have := hnH.out; omega
        rw [show n - k = (n - (k + 1)) + 1 by omega] at hF
        by_cases h3 : k % 3 = 2
        · have r3 : Int.tmod (k : Int) 3 = 2 := by rw [Int.tmod_eq_emod_of_nonneg (by omega)]; omega
          obtain ⟨f1, f2, f3⟩ := hF.flush
          have cF := Lib.hid (lvFlush L hPk)
          rw [f1] at cF
          replace h3 := Lib.hid h3
          replace f2 := Lib.hid f2
          replace f3 := Lib.hid f3
          clear L hF f1
          go_wp2_with fail
          refine cF.out.mono ?_
          rintro en w4 ⟨rfl, F4, L4, -⟩
          replace L4 := Lib.hid L4
          clear cF
          simp only []
          go_wp2_with fail
          go_roundw
          case rel => exact ⟨k + 1, F4, _, by go_num, by omega, L4.out, f2.out, by have := f3.out; omega⟩
          case measure => simp [intOf]; omega
        · obtain ⟨r, hr⟩ : ∃ r, k % 3 = r := ⟨_, rfl⟩
          have r3 : Int.tmod (k : Int) 3 = (r : Int) := by rw [Int.tmod_eq_emod_of_nonneg (by omega)]; omega
          rw [hr] at h3
          have r31 : (r = 2) = False := eq_false h3
          have r32 : ((r : Int) = 2) = False := eq_false (by omega)
          have r33 : ((r : Int) == 2) = false := by simp; omega
          obtain ⟨q, hq⟩ : ∃ q, k % 8 = q := ⟨_, rfl⟩
          have r8 : Int.tmod (k : Int) 8 = (q : Int) := by rw [Int.tmod_eq_emod_of_nonneg (by omega)]; omega
          have hq8 : q < 8 := by omega
          have hw8 : IntKind.u8.wrap (k : Int) = (k : Int) := IntWalk.u8_in _ ⟨by omega, by have := hk50.out; omega⟩
          have hA : Upd Non wr (wr.alloc (.cells #[.int .u8 (k : Int)] 5)) := Upd.alloc _ _ _
          have hBk : Bytes (wr.alloc (.cells #[.int .u8 (k : Int)] 5)) (.slice (some ⟨wr.heap.size, 0, none⟩) 1 1) [UInt8.ofNat k] := by
            have := has_new wr (bc [UInt8.ofNat k]) 5 1 1 rfl (by decide)
            have e : bc [UInt8.ofNat k] = [.int .u8 (k : Int)] := by
              simp only [bc, List.map_cons, List.map_nil, UInt8.toNat_ofNat']
              rw [Nat.mod_eq_of_lt (by have := hk50.out; omega)]
            rw [e] at this
            show Has _ 1 _ 1 (bc [UInt8.ofNat k])
            rw [e]
            exact this
          obtain ⟨f1, f2⟩ := hF.write hq8 [UInt8.ofNat k] (by simp)
          have f3 := write_P d (q : Int) [UInt8.ofNat k]
          have cW := Lib.hid (lvWrite (L.non hA) hPk (q : Int) [UInt8.ofNat k] _ hBk (fun j hj hF => by have := L.at_.lt j hF; have := at_of hj; omega))
          rw [f1] at cW
          replace f2 := Lib.hid f2
          replace f3 := Lib.hid f3
          replace hr := Lib.hid hr
          replace hq := Lib.hid hq
          replace h3 := Lib.hid h3
          clear L hF f1 hBk hA
          go_wp2_with fail
          refine cW.out.mono ?_
          rintro en w4 ⟨rfl, F4, L4, -⟩
          replace L4 := Lib.hid L4
          clear cW
          simp only []
          go_wp2_with fail
          go_roundw
          case rel => exact ⟨k + 1, F4, _, by go_num, by omega, L4.out, f2.out, by have := f3.out; omega⟩
          case measure => simp [intOf]; omega
      · have hin' : ((k : Int) < (n : Int)) = False := eq_false (by omega)
        rw [show n - k = 0 by omega] at hF
        have hPk : d.P.length ≤ 1000000 := by have := hnH.out; omega
        have cP := Lib.hid (lvPending L)
        replace hF := Lib.hid hF
        clear L
        go_wp2_with fail
        refine cP.out.mono ?_
        rintro en w4 ⟨rfl, L4⟩
        have cD := Lib.hid (lvDead L4)
        rw [hF.out.dd] at cD
        clear cP L4
        simp only []
        go_wp2_with fail
        refine cD.out.mono ?_
        rintro en w5 ⟨rfl, L5⟩
        have hA5 : Upd Non w5 (w5.alloc (.cells #[.int .u8 120] 5 (1, 2))) := Upd.alloc _ _ _
        have hB5 : Bytes (w5.alloc (.cells #[.int .u8 120] 5 (1, 2))) (.slice (some ⟨w5.heap.size, 0, none⟩) 1 1) [120] := bytes_const w5 5 [120] (1, 2) (by decide)
        obtain ⟨g1, g2, g3⟩ := hF.out.dies (i := 0) (by omega) [120] (by simp)
        have cW := Lib.hid (lvWrite (L5.non hA5) hPk 0 [120] _ hB5 (fun j hj hF => by have := L5.at_.lt j hF; have := at_of hj; omega))
        rw [show ((0 : Nat) : Int) = 0 from rfl] at g1 g2 g3
        rw [g1] at cW
        obtain ⟨dz, hdz⟩ : ∃ dz, (d.write 0 [120]).1 = dz := ⟨_, rfl⟩
        rw [hdz] at cW g2 g3
        have hPz : dz.P.length ≤ 1000000 := by rw [g3]; exact hPk
        obtain ⟨pz, hpz⟩ : ∃ pz, d.P.length = pz := ⟨_, rfl⟩
        have hpz2 : dz.P.length = pz := by rw [g3]; exact hpz
        rw [hpz]
        replace hpz2 := Lib.hid hpz2
        clear cD L5 hA5 hB5 hdz g1 hpz g3
        simp only []
        go_wp2_with fail
        refine cW.out.mono ?_
        rintro en w6 ⟨rfl, F6, L6, -⟩
        have cD2 := Lib.hid (lvDead L6)
        rw [g2.dd] at cD2
        replace g2 := Lib.hid g2
        clear cW L6
        simp only []
        go_wp2_with fail
        refine cD2.out.mono ?_
        rintro en w7 ⟨rfl, L7⟩
        replace L7 := Lib.hid L7
        clear cD2
        simp only []
        go_wp2_with fail
        go_loopw [10] (fun iv wr => ∃ (k : Nat) (F : Nat → Prop), iv = .int .i64 (k : Int) ∧ k ≤ m ∧ Lv w D wr F dz) (fun iv _ => m - (intOf iv).toNat)
        case atStart => exact ⟨0, F6, rfl, by omega, L7.out⟩
        case round =>
          clear L7
          obtain ⟨j, Fj, rfl, hjm, Lj⟩ := hrel
          have cR := Lib.hid (gRead Lj g2.out hPz 0)
          clear Lj
          by_cases hjn : j < m
          · have hjn' : (j : Int) < (m : Int) := by omega
            have hj50n : j < 50 := by have := hmH.out; omega
            go_wp2_with fail
            refine cR.out.mono ?_
            rintro en w8 ⟨rfl, L8⟩
            have cF := Lib.hid (gFlush L8 g2.out hPz)
            clear cR L8
            simp only []
            go_wp2_with fail
            refine cF.out.mono ?_
            rintro en w9 ⟨rfl, F9, L9⟩
            have cW2 := Lib.hid (gWrite L9 g2.out hPz 1)
            clear cF L9
            simp only []
            go_wp2_with fail
            refine cW2.out.mono ?_
            rintro en w10 ⟨rfl, F10, L10⟩
            have cA2 := Lib.hid (gArm L10 g2.out)
            clear cW2 L10
            simp only []
            go_wp2_with fail
            refine cA2.out.mono ?_
            rintro en w11 ⟨rfl, F11, L11⟩
            have cP2 := Lib.hid (lvPending L11)
            rw [hpz2.out] at cP2
            clear cA2 L11
            simp only []
            go_wp2_with fail
            refine cP2.out.mono ?_
            rintro en w12 ⟨rfl, L12⟩
            replace L12 := Lib.hid L12
            clear cP2
            simp only []
            go_wp2_with fail
            go_roundw
            case rel => exact ⟨j + 1, F11, by go_num, by omega, L12.out⟩
            case measure => simp [intOf]; omega
          · have hjn' : ((j : Int) < (m : Int)) = False := eq_false (by omega)
            go_wp2_with fail
            refine cR.out.mono ?_
            rintro en w8 ⟨rfl, L8⟩
            have cC2 := Lib.hid (lvCrash L8 hPz (.slice none 0 0) [] (Has.nil _ _) (fun _ k hk => by simp [At, Value.ownBlock] at hk))
            clear cR L8
            simp only []
            go_wp2_with fail
            refine cC2.out.mono ?_
            rintro en w9 ⟨rfl, F9, L9, -⟩
            have hKz := g2.out.len
            have hPc : (dz.crash []).P.length ≤ 1000000 := by rw [crash_P]; omega
            have hwz := crash_within dz [] 0 (by omega)
            have hwr := crash_writes dz [] 0 [121] (by omega) (by simp)
            rw [show ((0 : Nat) : Int) = 0 from rfl] at hwz hwr
            have cD3 := Lib.hid (lvDead L9)
            rw [show (dz.crash []).dd = false from rfl] at cD3
            obtain ⟨dy, hdy⟩ : ∃ dy, dz.crash [] = dy := ⟨_, rfl⟩
            rw [hdy] at hPc hwz hwr cD3
            clear cC2 L9 hKz
            simp only []
            go_wp2_with fail
            refine cD3.out.mono ?_
            rintro en w10 ⟨rfl, L10⟩
            have cR2 := Lib.hid (lvRead L10 hPc 0)
            rw [hwz] at cR2
            clear cD3 L10 hwz
            simp only []
            go_wp2_with fail
            refine cR2.out.mono ?_
            rintro en w11 ⟨vq, rfl, -, L11, -⟩
            have hA7 : Upd Non w11 (w11.alloc (.cells #[.int .u8 121] 5 (1, 2))) := Upd.alloc _ _ _
            have hB7 : Bytes (w11.alloc (.cells #[.int .u8 121] 5 (1, 2))) (.slice (some ⟨w11.heap.size, 0, none⟩) 1 1) [121] := bytes_const w11 5 [121] (1, 2) (by decide)
            have cW3 := Lib.hid (lvWrite (L11.non hA7) hPc 0 [121] _ hB7 (fun j hj hF => by have := L11.at_.lt j hF; have := at_of hj; omega))
            rw [hwr] at cW3
            clear cR2 L11 hA7 hB7 hwr
            simp only []
            go_wp2_with fail
            refine cW3.out.mono ?_
            rintro en w12 ⟨rfl, F12, L12, -⟩
            have hU12 := L12.upd
            clear cW3 L12
            simp only []
            go_wp2_with fail
            refine (lives04 _).mono ?_
            rintro en w13 ⟨rfl, hu13⟩
            have hU13 := hU12.trans hu13 fun _ _ h => h
            simp only []
            go_wp2_with fail
            go_ret
            exact ⟨rfl, hU13⟩
  · have hcase : n < 0 ∨ (0 ≤ n ∧ 50 < n) ∨ ((0 ≤ n ∧ n ≤ 50) ∧ m < 0) ∨ ((0 ≤ n ∧ n ≤ 50) ∧ 0 ≤ m ∧ 50 < m) := by omega
    clear hb
    rcases hcase with h | ⟨h1, h⟩ | ⟨⟨h1, h2⟩, h⟩ | ⟨⟨h1, h2⟩, h3, h⟩
    all_goals
      (try replace h1 : (n < 0) = False := eq_false (by omega))
      (try replace h2 : ((50 : Int) < n) = False := eq_false (by omega))
      (try replace h3 : (m < 0) = False := eq_false (by omega))
      go_enter Try.func5, Try.ntmps5
      go_wp2_with fail
      refine cB.out.mono ?_
      rintro en w1 ⟨D, F1, rfl, L1⟩
      have hU1 := L1.upd
      clear L1 cB
      simp only []
      go_wp2_with fail
      refine (lives04 _).mono ?_
      rintro en w2 ⟨rfl, hu2⟩
      have hU2 := hU1.trans hu2 fun _ _ h => h
      simp only []
      go_wp2_with fail
      go_ret
      exact ⟨rfl, hU2⟩
end Go.Proofs.Ytgkiglodhhlnmaa
