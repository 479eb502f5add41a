/- The walk over the reference's Bucket. -/
import Derived.Test.YtaflpabpkpfifaaDoorLsE
namespace Go.Proofs.YtaflpabpkpfifaaDoor
set_option maxRecDepth 100000
open Go.RowKit Go.Amb
set_option linter.unusedVariables false
set_option linter.unusedSimpArgs false
theorem plain_call {c : UInt8} {m : Nat} (hm : c.toNat = m) (b : Bool) (hb : plainB c = b) : Hid (∀ w, Calls Tryd.prog 59 #[.int .u8 (m : Int)] w (Ret (.bool b) w)) := Lib.hid (fun w => by rw [← hb]; exact rPlain c m hm w)
set_option maxHeartbeats 4000000 in
theorem rBucket (s : Str) (w : World) (hs : s.length ≤ 140737488355328) : Calls Tryd.prog 35 #[txtV s] w (Ret (.int .i64 (bk s)) w) := by
  unfold txtV
  obtain ⟨R, hR⟩ : ∃ R, R = bk s := ⟨_, rfl⟩
  rw [← hR]
  replace hR := Lib.hid hR
  by_cases h1 : s.length < 3
  · have hbad := Lib.hid (bk_short (.inl h1))
    have h1' : (s.length : Int) < 3 := by omega
    go_enter Tryd.func35, Tryd.ntmps35
    go_wp2_with fail
    go_ret
    exact ⟨by rw [hR.out, hbad.out]; rfl, Upd.refl _ _⟩
  by_cases h2 : 12 < s.length
  · have hbad := Lib.hid (bk_short (.inr h2))
    have h1' : ((s.length : Int) < 3) = False := eq_false (by omega)
    have h2' : (12 : Int) < (s.length : Int) := by omega
    clear h1
    go_enter Tryd.func35, Tryd.ntmps35
    go_wp2_with fail
    go_ret
    exact ⟨by rw [hR.out, hbad.out]; rfl, Upd.refl _ _⟩
  have h1' : ((s.length : Int) < 3) = False := eq_false (by omega)
  have h2' : ((12 : Int) < (s.length : Int)) = False := eq_false (by omega)
  have h0 : 0 < s.length := by omega
  obtain ⟨n, hn⟩ : ∃ n, s.length = n := ⟨_, rfl⟩
  have hln : n - 1 < s.length := by omega
  obtain ⟨m0, hm0⟩ : ∃ m, s[0].toNat = m := ⟨_, rfl⟩
  obtain ⟨m1, hm1⟩ : ∃ m, s[n - 1].toNat = m := ⟨_, rfl⟩
  have hb0 := by_at h0 hm0 (by simpa [ByteArray.size] using h0)
  have hb1 := by_at hln hm1 (by simpa [ByteArray.size] using hln)
  have hn12 : n ≤ 12 := by omega
  have hn3 : 3 ≤ n := by omega
  have hw := IntWalk.i64_in ((n : Int) - 1) ⟨by omega, by omega⟩
  have hw3 := IntWalk.wrap64_in ((n : Int) - 1) ⟨by omega, by omega⟩
  have hnn : ((n : Int) - 1).toNat = n - 1 := by omega
  have hnz : (0 : Int) ≤ (n : Int) - 1 := by omega
  have hnl : (n : Int) - 1 < (n : Int) := by omega
  have hn0 : (0 : Int) < (n : Int) := by omega
  replace h1 := Lib.hid h1
  replace h2 := Lib.hid h2
  by_cases hp0 : plainB s[0] = true
  · have c0 := plain_call hm0 true hp0
    by_cases hp1 : plainB s[n - 1] = true
    · have c1 := plain_call hm1 true hp1
      replace hp0 := Lib.hid hp0
      replace hp1 := Lib.hid hp1
      replace hm0 := Lib.hid hm0
      replace hm1 := Lib.hid hm1
      replace hn3 := Lib.hid hn3
      rw [hn] at h1' h2'
      go_enter Tryd.func35, Tryd.ntmps35
      go_wp2_with fail
      refine (c0.out _).mono ?_
      rintro e w1 ⟨rfl, hu1⟩
      simp only []
      go_wp2_with fail
      refine (c1.out _).mono ?_
      rintro e w2 ⟨rfl, hu2⟩
      have hU := hu1.trans hu2 fun _ _ h => h
      clear hu1 hu2 c0 c1 hb0 hb1
      simp only []
      go_wp2_with fail
      go_loopw [3] (fun iv wr => ∃ k : Nat, iv = .int .i64 (k : Int) ∧ k ≤ n ∧ Hid (bkTo s k) ∧ Upd Non w wr) (fun iv _ => n - (intOf iv).toNat)
      case atStart => exact ⟨0, rfl, by omega, Lib.hid (fun i h => by omega), hU⟩
      case round =>
        clear hU
        obtain ⟨k, rfl, hk, hto, hU⟩ := hrel
        by_cases hkn : k < n
        · have hkn' : (k : Int) < (n : Int) := by omega
          have hk0 : (0 : Int) ≤ (k : Int) := by omega
          have hl : k < s.length := by omega
          have hl' : (k : Int) < (s.length : Int) := by omega
          have hsz : k < ByteArray.size ⟨s.toArray⟩ := by simpa [ByteArray.size] using hl
          obtain ⟨m, hm⟩ : ∃ m, s[k].toNat = m := ⟨_, rfl⟩
          have hb := by_at hl hm hsz
          by_cases hp : plainB s[k] = true
          · have c := plain_call hm true hp
            have hgood := Lib.hid (hto.out.next fun _ => .inl hp)
            replace hm := Lib.hid hm
            replace hp := Lib.hid hp
            go_wp2_with fail
            refine (c.out _).mono ?_
            rintro e w3 ⟨rfl, hu3⟩
            have hU3 := hU.trans hu3 fun _ _ h => h
            clear hU hu3 c
            simp only []
            go_wp2_with fail
            go_roundw
            case rel => exact ⟨k + 1, by go_num, by omega, Lib.hid hgood.out, hU3⟩
            case measure => simp [intOf]; omega
          · have c := plain_call hm false (by simpa using hp)
            by_cases h45 : m = 45
            · subst h45
              have hk1 : k ≠ 0 := fun e => by subst e; exact hp hp0.out
              have hk2 : k ≠ n - 1 := fun e => by subst e; exact hp hp1.out
              have hn3' := hn3.out
              have hgood := Lib.hid (hto.out.next fun _ => .inr ⟨hm, by omega, by omega⟩)
              replace hm := Lib.hid hm
              replace hp := Lib.hid hp
              clear hk1 hk2 hn3'
              go_wp2_with fail
              refine (c.out _).mono ?_
              rintro e w3 ⟨rfl, hu3⟩
              have hU3 := hU.trans hu3 fun _ _ h => h
              clear hU hu3 c
              simp only []
              go_wp2_with fail
              go_roundw
              case rel => exact ⟨k + 1, by go_num, by omega, Lib.hid hgood.out, hU3⟩
              case measure => simp [intOf]; omega
            · have hbad := Lib.hid (bk_no k hl (by rw [hm]; rintro (h | h); exact hp h; exact h45 h.1))
              have e45 : ((m : Int) == 45) = false := by rw [beq_eq_false_iff_ne]; omega
              have e45' : (45 == (m : Int)) = false := by rw [beq_eq_false_iff_ne]; omega
              replace hm := Lib.hid hm
              replace hp := Lib.hid hp
              replace h45 := Lib.hid h45
              go_wp2_with fail
              refine (c.out _).mono ?_
              rintro e w3 ⟨rfl, hu3⟩
              have hU3 := hU.trans hu3 fun _ _ h => h
              clear hU hu3 c
              simp only []
              go_wp2_with fail
              go_ret
              exact ⟨by rw [hR.out, hbad.out]; rfl, hU3⟩
        · obtain rfl : k = n := by omega
          have hkn' : ¬ (k : Int) < (k : Int) := by omega
          have hend : bk s = 0 := by
            unfold bk; rw [if_pos]
            exact ⟨by have := h1.out; omega, by have := h2.out; omega, fun i hi => hto.out i (by omega) hi⟩
          replace hend := Lib.hid hend
          go_wp2_with fail
          go_ret
          exact ⟨by rw [hR.out, hend.out]; rfl, hU⟩
    · have c1 := plain_call hm1 false (by simpa using hp1)
      have hbad := Lib.hid (bk_no (n - 1) hln (by rintro (h | h); exact hp1 h; omega))
      replace hp0 := Lib.hid hp0
      replace hp1 := Lib.hid hp1
      replace hm0 := Lib.hid hm0
      replace hm1 := Lib.hid hm1
      replace hn3 := Lib.hid hn3
      rw [hn] at h1' h2'
      go_enter Tryd.func35, Tryd.ntmps35
      go_wp2_with fail
      refine (c0.out _).mono ?_
      rintro e w1 ⟨rfl, hu1⟩
      simp only []
      go_wp2_with fail
      refine (c1.out _).mono ?_
      rintro e w2 ⟨rfl, hu2⟩
      have hU := hu1.trans hu2 fun _ _ h => h
      simp only []
      go_wp2_with fail
      go_ret
      exact ⟨by rw [hR.out, hbad.out]; rfl, hU⟩
  · have c0 := plain_call hm0 false (by simpa using hp0)
    have hbad := Lib.hid (bk_no 0 h0 (by rintro (h | h); exact hp0 h; omega))
    replace hp0 := Lib.hid hp0
    replace hm0 := Lib.hid hm0
    replace hm1 := Lib.hid hm1
    replace hn3 := Lib.hid hn3
    rw [hn] at h1' h2'
    go_enter Tryd.func35, Tryd.ntmps35
    go_wp2_with fail
    refine (c0.out _).mono ?_
    rintro e w1 ⟨rfl, hu1⟩
    simp only []
    go_wp2_with fail
    go_ret
    exact ⟨by rw [hR.out, hbad.out]; rfl, hu1⟩
end Go.Proofs.YtaflpabpkpfifaaDoor
