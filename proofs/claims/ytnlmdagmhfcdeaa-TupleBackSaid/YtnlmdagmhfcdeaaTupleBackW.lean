/- The walk over ambrylaw02.TupleBack. -/
import Derived.Test.YtnlmdagmhfcdeaaTP
import Derived.Test.YtnlmdagmhfcdeaaTK
import Derived.Test.YtnlmdagmhfcdeaaTupleOrderW
namespace Go.Proofs.Ytnlmdagmhfcdeaa
open Go.RowKit Go.Amb
set_option linter.unusedVariables false
attribute [local go_sem ↓] Go.wp_at_zero Go.wp_at_succ

theorem decR_enc {a : List Part} (h : (encR a).2 = 0) (hna : OkP a) : decR (encR a).1 = (a, 0) := by
  obtain ⟨r, l, q⟩ := encR_fine h
  rw [q]
  show decR (encB a) = _
  unfold decR
  rw [if_neg (by omega), decL_enc a fun p hp => ⟨List.all_eq_true.1 r p hp, (hna p hp).1⟩]
theorem decR_back {s : List UInt8} (h : (decR s).2 = 0) : encR (decR s).1 = (s, 0) ∧ OkP (decR s).1 := by
  unfold decR at h ⊢
  by_cases h1 : 128 < s.length
  · rw [if_pos h1] at h; cases h
  · rw [if_neg h1] at h ⊢
    cases hd : decL s with
    | none => rw [hd] at h; cases h
    | some m =>
      obtain ⟨e, hp⟩ := decL_back s.length s m (Nat.le_refl _) hd
      refine ⟨?_, fun p hq => ⟨(hp p hq).2.1, by have := (hp p hq).2.2; omega⟩⟩
      show encR m = _
      rw [encR_ok (List.all_eq_true.2 fun p hq => (hp p hq).1) (by rw [e]; omega), e]
theorem decR_err {s : List UInt8} (h : (decR s).2 ≠ 0) : (decR s).1 = [] := by
  unfold decR at h ⊢
  by_cases h1 : 128 < s.length
  · rw [if_pos h1]
  · rw [if_neg h1] at h ⊢
    cases hd : decL s with
    | none => rfl
    | some m => rw [hd] at h; exact absurd rfl h

/-! The law is walked in two halves: parts, then bytes. -/
set_option maxHeartbeats 4000000 in
theorem tback_any (va : Value) (a : List Part) (s : List UInt8) (w : World) (hna : OkP a) (hA : Parts w va a) :
    Calls Try.prog 9 #[va, .string ⟨s.toArray⟩] w (Ret (.bool true) w) := by
  have ea := Lib.hid (tEncode va a w hna hA)
  have ca := Lib.hid (fun w' (hu : Upd Non w w') => tCheck va a w' hna (hA.non hu))
  have sa := Lib.hid (fun w' vb (hu : Upd Non w w') (hB : Parts w' vb a) => rSame va vb a a w' (hA.non hu) hB)
  have hd := Lib.hid (fun w => tDecode s w)
  have hback := Lib.hid (@decR_back s)
  have herr := Lib.hid (@decR_err s)
  have hl := encR_len a
  have henc := Lib.hid (fun h => @decR_enc a h hna)
  have hee := Lib.hid (@encR_err a)
  obtain ⟨aa, ac, rfl, halc, hac, hacell⟩ := parts_at hA
  clear hacell
  generalize decR s = q at *
  obtain ⟨m, x⟩ := q
  generalize encR a = q at *
  obtain ⟨t, y⟩ := q
  have ht := Lib.hid (fun w => tDecode t w)
  by_cases h : 1000 < a.length
  · have h1' : decide ((a.length : Int) ≤ 1000) = false := by simp; omega
    have hf1 := lfew aa a.length ac w
    rw [h1'] at hf1
    replace hf1 := Lib.hid hf1
    go_enter Try.func9, Try.ntmps9
    go_wp2_with fail
    refine hf1.out.mono ?_
    rintro e w1 ⟨rfl, rfl⟩
    go_wp2_with fail
    refine (lives02 _).mono ?_
    rintro e w1 ⟨rfl, hu1⟩
    go_wp2_with fail
    go_ret
    exact ⟨rfl, hu1⟩
  · have h1' : decide ((a.length : Int) ≤ 1000) = true := by simp; omega
    have hf1 := lfew aa a.length ac w
    rw [h1'] at hf1
    replace hf1 := Lib.hid hf1
    by_cases hy : y = 0
    · subst hy
      have hdt := henc.out rfl
      simp only at hdt
      rw [hdt] at ht
      simp only at hl
      have hl' : ¬ (128 : Int) < t.length := by omega
      clear hdt hl
      go_enter Try.func9, Try.ntmps9
      go_wp2_with fail
      refine hf1.out.mono ?_
      rintro e w1 ⟨rfl, rfl⟩
      go_wp2_with fail
      refine ea.out.mono ?_
      rintro e w1 ⟨rfl, hu1⟩
      go_wp2_with fail
      refine (ht.out _).mono ?_
      rintro e w2 ⟨v2, rfl, hP2, hu2, -⟩
      have hu2 := hu1.trans hu2 fun _ _ h => h
      clear hu1
      go_wp2_with fail
      refine (sa.out _ _ hu2 hP2).mono ?_
      rintro e w3 ⟨rfl, hu3⟩
      have hu3 := hu2.trans hu3 fun _ _ h => h
      clear hu2
      simp only [decide_true]
      go_wp2_with fail
      refine (hd.out _).mono ?_
      rintro e wd ⟨vd, rfl, hPd, hud, -⟩
      have hu5 := Upd.trans hu3 hud fun _ _ h => h
      clear hud
      by_cases hx : x = 0
      · subst hx
        obtain ⟨hem, hokm⟩ := hback.out rfl
        have hEm := Lib.hid (fun w hP => tEncode vd m w hokm hP)
        have hCm := Lib.hid (fun w hP => tCheck vd m w hokm hP)
        rw [hem] at hEm hCm
        go_wp2_with fail
        refine (hEm.out _ hPd).mono ?_
        rintro e w6 ⟨rfl, hu6⟩
        replace hPd : Parts w6 vd m := hPd.non hu6
        have hu7 := hu5.trans hu6 fun _ _ h => h
        go_wp2_with fail
        refine (hCm.out _ hPd).mono ?_
        rintro e w8 ⟨rfl, hu8⟩
        have hu9 := hu7.trans hu8 fun _ _ h => h
        go_wp2_with fail
        refine (lives02 _).mono ?_
        rintro e w4 ⟨rfl, hu4⟩
        go_wp2_with fail
        go_ret
        exact ⟨rfl, hu9.trans hu4 fun _ _ h => h⟩
      · obtain rfl := herr.out hx
        have hxb : (x == 0) = false := by simp [hx]
        have hxn : (x != 0) = true := by simp [hx]
        obtain ⟨da, dc, rfl, -, -, -⟩ := parts_at hPd
        go_wp2_with fail
        refine (lives02 _).mono ?_
        rintro e w4 ⟨rfl, hu4⟩
        go_wp2_with fail
        go_ret
        exact ⟨rfl, hu5.trans hu4 fun _ _ h => h⟩
    · have hyb : (y == 0) = false := by simp [hy]
      have hyn : (y != 0) = true := by simp [hy]
      obtain rfl : t = [] := hee.out hy
      clear hl
      go_enter Try.func9, Try.ntmps9
      go_wp2_with fail
      refine hf1.out.mono ?_
      rintro e w1 ⟨rfl, rfl⟩
      go_wp2_with fail
      refine ea.out.mono ?_
      rintro e w1 ⟨rfl, hu1⟩
      go_wp2_with fail
      refine (ca.out _ hu1).mono ?_
      rintro e w3 ⟨rfl, hu3⟩
      have hu3 := hu1.trans hu3 fun _ _ h => h
      clear hu1
      go_wp2_with fail
      refine (hd.out _).mono ?_
      rintro e wd ⟨vd, rfl, hPd, hud, -⟩
      have hu5 := Upd.trans hu3 hud fun _ _ h => h
      clear hud
      by_cases hx : x = 0
      · subst hx
        obtain ⟨hem, hokm⟩ := hback.out rfl
        have hEm := Lib.hid (fun w hP => tEncode vd m w hokm hP)
        have hCm := Lib.hid (fun w hP => tCheck vd m w hokm hP)
        rw [hem] at hEm hCm
        go_wp2_with fail
        refine (hEm.out _ hPd).mono ?_
        rintro e w6 ⟨rfl, hu6⟩
        replace hPd : Parts w6 vd m := hPd.non hu6
        have hu7 := hu5.trans hu6 fun _ _ h => h
        go_wp2_with fail
        refine (hCm.out _ hPd).mono ?_
        rintro e w8 ⟨rfl, hu8⟩
        have hu9 := hu7.trans hu8 fun _ _ h => h
        go_wp2_with fail
        refine (lives02 _).mono ?_
        rintro e w4 ⟨rfl, hu4⟩
        go_wp2_with fail
        go_ret
        exact ⟨rfl, hu9.trans hu4 fun _ _ h => h⟩
      · obtain rfl := herr.out hx
        have hxb : (x == 0) = false := by simp [hx]
        have hxn : (x != 0) = true := by simp [hx]
        obtain ⟨da, dc, rfl, -, -, -⟩ := parts_at hPd
        go_wp2_with fail
        refine (lives02 _).mono ?_
        rintro e w4 ⟨rfl, hu4⟩
        go_wp2_with fail
        go_ret
        exact ⟨rfl, hu5.trans hu4 fun _ _ h => h⟩
end Go.Proofs.Ytnlmdagmhfcdeaa
