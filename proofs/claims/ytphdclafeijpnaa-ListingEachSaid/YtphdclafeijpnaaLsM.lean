/- Same; few. -/
import Derived.Test.YtphdclafeijpnaaLsI
import Derived.Deep.QuietTactic
namespace Go.Proofs.Ytphdclafeijpnaa
open Go.RowKit Go.Amb Go.Shelf
set_option linter.unusedVariables false
set_option linter.unusedSimpArgs false
set_option maxRecDepth 100000
set_option maxHeartbeats 2000000 in
theorem rSameTexts (va vb : Value) (a b : List Str) (w : World) (hA : Txts w va a) (hB : Txts w vb b) : Calls Try.prog 23 #[va, vb] w (Ret (.bool (decide (a = b))) w) := by
  obtain ⟨aa, ac, rfl, hat⟩ := txts_at hA
  obtain ⟨ba, bc', rfl, hbt⟩ := txts_at hB
  have hla : a.length ≤ 9223372036854775807 := by obtain ⟨_, _, _, e, h1, h2, _⟩ := hA; injection e with _ _ e; subst e; unfold maxLen at h2; omega
  clear hA hB
  obtain ⟨R, hR⟩ : ∃ R : Bool, R = decide (a = b) := ⟨_, rfl⟩
  rw [← hR]
  obtain ⟨n, hn⟩ : ∃ n, a.length = n := ⟨_, rfl⟩
  obtain ⟨m, hm⟩ : ∃ m, b.length = m := ⟨_, rfl⟩
  rw [hn] at hla ⊢
  rw [hm]
  by_cases hl : n = m
  · subst hl
    have hyes : Hid ((∀ i (h : i < a.length) (h' : i < b.length), a[i] = b[i]) → R = true) := Lib.hid (fun h => by rw [hR]; exact decide_eq_true (List.ext_getElem (by omega) fun i h1 h2 => h i h1 h2))
    have hno : Hid (∀ i (h : i < a.length) (h' : i < b.length), a[i] ≠ b[i] → R = false) := Lib.hid (fun i h h' hne => by rw [hR]; exact decide_eq_false (fun e => hne (by subst e; rfl)))
    replace hat := Lib.hid hat
    replace hbt := Lib.hid hbt
    clear hR
    go_enter Try.func23, Try.ntmps23
    go_wp2_with fail
    go_loopw [5] (fun iv wr => ∃ i : Nat, iv = .int .i64 (i : Int) ∧ i ≤ n ∧ Hid (∀ j (h : j < a.length) (h' : j < b.length), j < i → a[j] = b[j]) ∧ Upd Non w wr) (fun iv _ => n - (intOf iv).toNat)
    case atStart => exact ⟨0, rfl, by omega, Lib.hid (fun j _ _ h => by omega), Upd.refl _ _⟩
    case round =>
      obtain ⟨i, rfl, hi, hs, hu⟩ := hrel
      by_cases hin : i < n
      · have hin' : (i : Int) < (n : Int) := by omega
        have hi0 : (0 : Int) ≤ (i : Int) := by omega
        obtain ⟨g, off, rfl, x0⟩ := hat.out i (by omega)
        obtain ⟨g', off', rfl, y0⟩ := hbt.out i (by omega)
        have x1 := hu.cell x0 fun h => h
        have y1 := hu.cell y0 fun h => h
        obtain ⟨s, hs1⟩ : ∃ s, a[i]'(by omega) = s := ⟨_, rfl⟩
        obtain ⟨t, ht1⟩ : ∃ t, b[i]'(by omega) = t := ⟨_, rfl⟩
        rw [hs1] at x1
        rw [ht1] at y1
        unfold txtV at x1 y1
        clear x0 y0
        by_cases he : s = t
        · subst he
          have hnx := Lib.hid (show ∀ j (h : j < a.length) (h' : j < b.length), j < i + 1 → a[j] = b[j] from fun j h h' hj => by
            rcases Nat.lt_succ_iff_lt_or_eq.1 hj with hj | rfl
            · exact hs.out j h h' hj
            · exact hs1.trans ht1.symm)
          replace hs1 := Lib.hid hs1
          replace ht1 := Lib.hid ht1
          go_wp2_with fail
          go_quiet (fail)
          go_wp2_with fail
          go_roundw
          case rel => exact ⟨i + 1, by go_num, by omega, Lib.hid hnx.out, hu.then_drewN _⟩
          case measure => simp [intOf]; omega
        · have hF := hno.out i (by omega) (by omega) (by rw [hs1, ht1]; exact he)
          subst hF
          have e1 : (s = t) = False := eq_false he
          have e2 : (s == t) = false := by simp [he]
          have e3 : (t = s) = False := eq_false (fun e => he e.symm)
          have e4 : (t == s) = false := by simp; exact fun e => he e.symm
          replace hs1 := Lib.hid hs1
          replace ht1 := Lib.hid ht1
          clear he
          go_wp2_with fail
          go_quiet (fail)
          go_wp2_with fail
          go_ret
          exact ⟨rfl, hu.then_drewN _⟩
      · obtain rfl : i = n := by omega
        have hin' : ¬ (i : Int) < (i : Int) := by omega
        have hT := hyes.out (fun j h h' => hs.out j h h' (by omega))
        subst hT
        go_wp2_with fail
        go_ret
        exact ⟨rfl, hu⟩
  · have hF : R = false := by rw [hR]; exact decide_eq_false (fun e => hl (by rw [← hn, ← hm, e]))
    subst hF
    have e1 : ((n : Int) == (m : Int)) = false := by simp; omega
    have e2 : ((n : Int) = (m : Int)) = False := eq_false (by omega)
    have e3 : (n = m) = False := eq_false hl
    clear hl hR hat hbt
    go_enter Try.func23, Try.ntmps23
    go_wp2_with fail
    go_ret
    exact ⟨rfl, Upd.refl _ _⟩
set_option maxHeartbeats 4000000 in
theorem rSame (va vb : Value) (a b : Pg) (w : World) (hA : PgAt w va a) (hB : PgAt w vb b) : Calls Try.prog 11 #[va, vb] w (Ret (.bool (decide (a = b))) w) := by
  obtain ⟨n1, p1, rfl, hn1, hp1⟩ := hA
  obtain ⟨n2, p2, rfl, hn2, hp2⟩ := hB
  obtain ⟨an, ap, ax, am⟩ := a
  obtain ⟨bn, bp, bx, bm⟩ := b
  simp only at hn1 hp1 hn2 hp2
  have cN := Lib.hid (fun w' (hu : Upd Non w w') => rSameTexts n1 n2 an bn w' (hn1.non hu) (hn2.non hu))
  have cP := Lib.hid (fun w' (hu : Upd Non w w') => rSameTexts p1 p2 ap bp w' (hp1.non hu) (hp2.non hu))
  obtain ⟨R, hR⟩ : ∃ R : Bool, R = decide (Pg.mk an ap ax am = Pg.mk bn bp bx bm) := ⟨_, rfl⟩
  rw [← hR]
  have hR2 : R = (decide (an = bn) && decide (ap = bp) && decide (ax = bx) && decide (am = bm)) := by
    rw [hR, Bool.eq_iff_iff]
    simp [and_assoc]
  clear hR
  obtain ⟨_, a1, c1, rfl, -⟩ := hn1
  obtain ⟨_, a2, c2, rfl, -⟩ := hp1
  obtain ⟨_, a3, c3, rfl, -⟩ := hn2
  obtain ⟨_, a4, c4, rfl, -⟩ := hp2
  generalize an.length = l1 at *
  generalize ap.length = l2 at *
  generalize bn.length = l3 at *
  generalize bp.length = l4 at *
  generalize hb1 : decide (an = bn) = b1 at *
  generalize hb2 : decide (ap = bp) = b2 at *
  clear hb1 hb2
  unfold txtV
  have hw2 := fun (w1 : World) (hu : Upd Non ((w.alloc (.cells #[.slice a1 l1 c1, .slice a2 l2 c2, .string ⟨ax.toArray⟩, .bool am] 26)).alloc (.cells #[.slice a3 l3 c3, .slice a4 l4 c4, .string ⟨bx.toArray⟩, .bool bm] 26)) w1) => hu.own2 (fun _ h => h.elim)
  replace hw2 := Lib.hid hw2
  have hA2 : Upd Non w ((w.alloc (.cells #[.slice a1 l1 c1, .slice a2 l2 c2, .string ⟨ax.toArray⟩, .bool am] 26)).alloc (.cells #[.slice a3 l3 c3, .slice a4 l4 c4, .string ⟨bx.toArray⟩, .bool bm] 26)) := ((Upd.refl _ _).then_alloc _).then_alloc _
  cases b1 with
  | false =>
    have hF : R = false := by rw [hR2]; rfl
    subst hF
    clear hR2
    go_enter Try.func11, Try.ntmps11
    go_wp2_with fail
    refine (cN.out _ hA2).mono ?_
    rintro e w1 ⟨rfl, hu1⟩
    have hU := hA2.trans hu1 fun _ _ h => h
    simp only []
    go_wp2_with fail
    go_ret
    exact ⟨rfl, hU⟩
  | true =>
    cases b2 with
    | false =>
      have hF : R = false := by rw [hR2]; rfl
      subst hF
      clear hR2
      go_enter Try.func11, Try.ntmps11
      go_wp2_with fail
      refine (cN.out _ hA2).mono ?_
      rintro e w1 ⟨rfl, hu1⟩
      obtain ⟨x0, -, y0, -, -, -, hU⟩ := hw2.out w1 hu1
      clear hu1
      simp only []
      go_wp2_with fail
      refine (cP.out _ hU).mono ?_
      rintro e w2 ⟨rfl, hu2⟩
      have hU2 := hU.trans hu2 fun _ _ h => h
      simp only []
      go_wp2_with fail
      go_ret
      exact ⟨rfl, hU2⟩
    | true =>
      by_cases hx : ax = bx
      · subst hx
        by_cases hm : am = bm
        · subst hm
          have hF : R = true := by rw [hR2]; simp
          subst hF
          clear hR2
          go_enter Try.func11, Try.ntmps11
          go_wp2_with fail
          refine (cN.out _ hA2).mono ?_
          rintro e w1 ⟨rfl, hu1⟩
          obtain ⟨x0, -, y0, -, -, -, hU⟩ := hw2.out w1 hu1
          simp only []
          go_wp2_with fail
          refine (cP.out _ hU).mono ?_
          rintro e w2 ⟨rfl, hu2⟩
          have hU2 := hU.trans hu2 fun _ _ h => h
          obtain ⟨x0, -, y0, -, -, -, -⟩ := hw2.out w2 (hu1.trans hu2 fun _ _ h => h)
          clear hu1 hu2
          simp only []
          go_wp2_with fail
          go_ret
          exact ⟨by simp, hU2⟩
        · have hF : R = false := by rw [hR2]; simp [hm]
          subst hF
          have e1 : (am == bm) = false := by simp [hm]
          have e2 : (am = bm) = False := eq_false hm
          clear hR2 hm
          go_enter Try.func11, Try.ntmps11
          go_wp2_with fail
          refine (cN.out _ hA2).mono ?_
          rintro e w1 ⟨rfl, hu1⟩
          obtain ⟨x0, -, y0, -, -, -, hU⟩ := hw2.out w1 hu1
          simp only []
          go_wp2_with fail
          refine (cP.out _ hU).mono ?_
          rintro e w2 ⟨rfl, hu2⟩
          have hU2 := hU.trans hu2 fun _ _ h => h
          obtain ⟨x0, -, y0, -, -, -, -⟩ := hw2.out w2 (hu1.trans hu2 fun _ _ h => h)
          clear hu1 hu2
          simp only []
          go_wp2_with fail
          go_ret
          exact ⟨by simp [e1], hU2⟩
      · have hF : R = false := by rw [hR2]; simp [hx]
        subst hF
        have e1 : (ax == bx) = false := by simp [hx]
        have e2 : (ax = bx) = False := eq_false hx
        clear hR2 hx
        go_enter Try.func11, Try.ntmps11
        go_wp2_with fail
        refine (cN.out _ hA2).mono ?_
        rintro e w1 ⟨rfl, hu1⟩
        obtain ⟨x0, -, y0, -, -, -, hU⟩ := hw2.out w1 hu1
        simp only []
        go_wp2_with fail
        refine (cP.out _ hU).mono ?_
        rintro e w2 ⟨rfl, hu2⟩
        have hU2 := hU.trans hu2 fun _ _ h => h
        obtain ⟨x0, -, y0, -, -, -, -⟩ := hw2.out w2 (hu1.trans hu2 fun _ _ h => h)
        clear hu1 hu2
        simp only []
        go_wp2_with fail
        go_ret
        exact ⟨rfl, hU2⟩
theorem lFew20 (nv : Value) (l : List Str) (w : World) (hT : Txts w nv l) : Calls Try.prog 7 #[nv] w (Ret (.bool (decide (l.length ≤ 500))) w) := by
  obtain ⟨a, c, rfl, -⟩ := txts_at hT
  generalize l.length = n
  clear hT
  by_cases h : n ≤ 500
  · have h' : (n : Int) ≤ 500 := by omega
    rw [decide_eq_true h]
    go_enter Try.func7, Try.ntmps7
    go_wp2_with fail
    go_ret
    exact ⟨by simp [h], Upd.refl _ _⟩
  · have h' : ((n : Int) ≤ 500) = False := eq_false (by omega)
    rw [decide_eq_false h]
    go_enter Try.func7, Try.ntmps7
    go_wp2_with fail
    go_ret
    exact ⟨by simp [h], Upd.refl _ _⟩
end Go.Proofs.Ytphdclafeijpnaa
