/- The walks of TupleOrder, TupleWrites, TupleJoins, TupleRanges. -/
import Derived.Test.YtnlmdagmhfcdeaaTI
import Derived.Test.YtnlmdagmhfcdeaaTF
import Derived.Test.YtnlmdagmhfcdeaaTJ
import Derived.Test.YtnlmdagmhfcdeaaTK
namespace Go.Proofs.Ytnlmdagmhfcdeaa
open Go.RowKit Go.Amb
set_option linter.unusedVariables false
attribute [local go_sem ↓] Go.wp_at_zero Go.wp_at_succ

def OkP (l : List Part) : Prop := ∀ p ∈ l, numOk p ∧ p.s.length ≤ 140737488355328
theorem encR_err {l : List Part} (h : (encR l).2 ≠ 0) : (encR l).1 = [] := by
  unfold encR at h ⊢
  by_cases h1 : l.all rightP = true
  · rw [if_pos h1] at h ⊢
    by_cases h2 : (encB l).length ≤ 128
    · rw [if_pos h2] at h; exact absurd rfl h
    · rw [if_neg h2]
  · rw [if_neg h1]
theorem encR_fine {l : List Part} (h : (encR l).2 = 0) : l.all rightP = true ∧ (encB l).length ≤ 128 ∧ encR l = (encB l, 0) := by
  unfold encR at h ⊢
  by_cases h1 : l.all rightP = true
  · rw [if_pos h1] at h ⊢
    by_cases h2 : (encB l).length ≤ 128
    · exact ⟨h1, h2, by rw [if_pos h2]⟩
    · rw [if_neg h2] at h; cases h
  · rw [if_neg h1] at h; cases h
theorem encR_len (l : List Part) : (encR l).1.length ≤ 128 := by
  unfold encR
  split
  · split
    · assumption
    · simp
  · simp
theorem right_all {l : List Part} (h : l.all rightP = true) (hn : OkP l) : ∀ p ∈ l, rightP p = true ∧ numOk p := fun p hp => ⟨List.all_eq_true.1 h p hp, (hn p hp).1⟩


set_option maxHeartbeats 2000000 in
theorem order_any (va vb : Value) (a b : List Part) (w : World) (hna : OkP a) (hnb : OkP b) (hA : Parts w va a) (hB : Parts w vb b) :
    Calls Try.prog 4 #[va, vb] w (Ret (.bool true) w) := by
  have ea := Lib.hid (tEncode va a w hna hA)
  have eb := Lib.hid (fun w' (hu : Upd Non w w') => tEncode vb b w' hnb (hB.non hu))
  have ct := Lib.hid (fun w' (hu : Upd Non w w') => tCompare va vb a b w' hna hnb (hA.non hu) (hB.non hu))
  obtain ⟨aa, ac, rfl, halc, hac, hacell⟩ := parts_at hA
  obtain ⟨ba, bc', rfl, hblc, hbc, hbcell⟩ := parts_at hB
  clear hacell hbcell
  by_cases h : 1000 < a.length ∨ 1000 < b.length
  · by_cases h1 : 1000 < a.length
    · have h1' : decide ((a.length : Int) ≤ 1000) = false := by simp; omega
      have hf1 := lfew aa a.length ac w
      rw [h1'] at hf1
      replace hf1 := Lib.hid hf1
      go_enter Try.func4, Try.ntmps4
      go_wp2_with fail
      refine hf1.out.mono ?_
      rintro e w1 ⟨rfl, rfl⟩
      go_wp2_with fail
      refine (lives02 _).mono ?_
      rintro e w1 ⟨rfl, hu1⟩
      go_wp2_with fail
      go_ret
      exact ⟨rfl, hu1⟩
    · have h1' : decide ((a.length : Int) ≤ 1000) = true := by simp; omega
      have h2' : decide ((b.length : Int) ≤ 1000) = false := by simp; omega
      have hf1 := lfew aa a.length ac w
      have hf2 := lfew ba b.length bc' w
      rw [h1'] at hf1
      rw [h2'] at hf2
      replace hf1 := Lib.hid hf1
      replace hf2 := Lib.hid hf2
      go_enter Try.func4, Try.ntmps4
      go_wp2_with fail
      refine hf1.out.mono ?_
      rintro e w1 ⟨rfl, rfl⟩
      go_wp2_with fail
      refine hf2.out.mono ?_
      rintro e w1 ⟨rfl, rfl⟩
      go_wp2_with fail
      refine (lives02 _).mono ?_
      rintro e w1 ⟨rfl, hu1⟩
      go_wp2_with fail
      go_ret
      exact ⟨rfl, hu1⟩
  · have h1' : decide ((a.length : Int) ≤ 1000) = true := by simp; omega
    have h2' : decide ((b.length : Int) ≤ 1000) = true := by simp; omega
    have hf1 := lfew aa a.length ac w
    have hf2 := lfew ba b.length bc' w
    rw [h1'] at hf1
    rw [h2'] at hf2
    replace hf1 := Lib.hid hf1
    replace hf2 := Lib.hid hf2
    clear h
    have hcr : Hid (cmpR a b = if (encR a).2 ≠ 0 then (0, (encR a).2) else if (encR b).2 ≠ 0 then (0, (encR b).2) else (cmpL a b, 0)) := rfl
    by_cases g1 : (encR a).2 = 0
    · by_cases g2 : (encR b).2 = 0
      · obtain ⟨ra, la, qa⟩ := encR_fine g1
        obtain ⟨rb, lb, qb⟩ := encR_fine g2
        have hl := cmpL_less a b (right_all ra hna) (right_all rb hnb)
        have he := encB_eq a b (right_all ra hna) (right_all rb hnb)
        have hq : cmpR a b = (cmpL a b, 0) := by rw [hcr.out, if_neg (by simp [g1]), if_neg (by simp [g2])]
        have he2 : (encB a == encB b) = (cmpL a b == 0) := by
          rw [Bool.eq_iff_iff]; simp [he]
        rw [qa] at ea
        rw [qb] at eb
        rw [hq] at ct
        clear g1 g2 ra la qa rb lb qb hq hcr he
        generalize cmpL a b = r at *
        generalize encB a = x at *
        generalize encB b = y at *
        replace hl := Lib.hid hl
        replace he2 := Lib.hid he2
        go_enter Try.func4, Try.ntmps4
        go_wp2_with fail
        refine hf1.out.mono ?_
        rintro e w0 ⟨rfl, rfl⟩
        go_wp2_with fail
        refine hf2.out.mono ?_
        rintro e w0 ⟨rfl, rfl⟩
        go_wp2_with fail
        refine ea.out.mono ?_
        rintro e w1 ⟨rfl, hu1⟩
        go_wp2_with fail
        refine (eb.out _ hu1).mono ?_
        rintro e w2 ⟨rfl, hu2⟩
        have hu2 := hu1.trans hu2 fun _ _ h => h
        clear hu1
        go_wp2_with fail
        refine (ct.out _ hu2).mono ?_
        rintro e w3 ⟨rfl, hu3⟩
        have hu3 := hu2.trans hu3 fun _ _ h => h
        have hl := hl.out
        have he2 := he2.out
        have e1 : (decide (r < 0) == Op.bytesLess x y) = true := by rw [hl]; simp
        have e2 : ((r == 0) == (x == y)) = true := by rw [he2]; simp
        clear hl he2
        go_wp2_with fail
        refine (lives02 _).mono ?_
        rintro e w9 ⟨rfl, hu9⟩
        go_wp2_with fail
        go_ret
        exact ⟨rfl, hu3.trans hu9 fun _ _ h => h⟩
      · have hq : cmpR a b = (0, (encR b).2) := by rw [hcr.out, if_neg (by simp [g1]), if_pos g2]
        rw [hq] at ct
        rw [g1] at ea
        have g2' : ((encR b).2 == 0) = false := by simp [g2]
        clear g1 g2 hq hcr
        generalize (encR a).1 = x at *
        generalize encR b = y at *
        obtain ⟨y1, y2⟩ := y
        simp only at g2'
        have g2b : (y2 != 0) = true := by simp only [bne, g2', Bool.not_false]
        go_enter Try.func4, Try.ntmps4
        go_wp2_with fail
        refine hf1.out.mono ?_
        rintro e w0 ⟨rfl, rfl⟩
        go_wp2_with fail
        refine hf2.out.mono ?_
        rintro e w0 ⟨rfl, rfl⟩
        go_wp2_with fail
        refine ea.out.mono ?_
        rintro e w1 ⟨rfl, hu1⟩
        go_wp2_with fail
        refine (eb.out _ hu1).mono ?_
        rintro e w2 ⟨rfl, hu2⟩
        have hu2 := hu1.trans hu2 fun _ _ h => h
        clear hu1
        go_wp2_with fail
        refine (ct.out _ hu2).mono ?_
        rintro e w3 ⟨rfl, hu3⟩
        have hu3 := hu2.trans hu3 fun _ _ h => h
        go_wp2_with fail
        refine (lives02 _).mono ?_
        rintro e w9 ⟨rfl, hu9⟩
        go_wp2_with fail
        go_ret
        exact ⟨rfl, hu3.trans hu9 fun _ _ h => h⟩
    · have hq : cmpR a b = (0, (encR a).2) := by rw [hcr.out, if_pos g1]
      rw [hq] at ct
      have g1' : ((encR a).2 == 0) = false := by simp [g1]
      clear g1 hq hcr
      generalize encR a = x at *
      generalize encR b = y at *
      obtain ⟨x1, x2⟩ := x
      obtain ⟨y1, y2⟩ := y
      simp only at g1'
      have g1b : (x2 != 0) = true := by simp only [bne, g1', Bool.not_false]
      go_enter Try.func4, Try.ntmps4
      go_wp2_with fail
      refine hf1.out.mono ?_
      rintro e w0 ⟨rfl, rfl⟩
      go_wp2_with fail
      refine hf2.out.mono ?_
      rintro e w0 ⟨rfl, rfl⟩
      go_wp2_with fail
      refine ea.out.mono ?_
      rintro e w1 ⟨rfl, hu1⟩
      go_wp2_with fail
      refine (eb.out _ hu1).mono ?_
      rintro e w2 ⟨rfl, hu2⟩
      have hu2 := hu1.trans hu2 fun _ _ h => h
      clear hu1
      go_wp2_with fail
      refine (ct.out _ hu2).mono ?_
      rintro e w3 ⟨rfl, hu3⟩
      have hu3 := hu2.trans hu3 fun _ _ h => h
      go_wp2_with fail
      refine (lives02 _).mono ?_
      rintro e w9 ⟨rfl, hu9⟩
      go_wp2_with fail
      go_ret
      exact ⟨rfl, hu3.trans hu9 fun _ _ h => h⟩

set_option maxHeartbeats 2000000 in
theorem writes_any (va : Value) (a : List Part) (w : World) (hna : OkP a) (hA : Parts w va a) :
    Calls Try.prog 6 #[va] w (Ret (.bool true) w) := by
  have ea := Lib.hid (tEncode va a w hna hA)
  have eb := Lib.hid (fun w' (hu : Upd Non w w') => rEncode va a w' hna (hA.non hu))
  have ca := Lib.hid (fun w' (hu : Upd Non w w') => tCheck va a w' hna (hA.non hu))
  have cb := Lib.hid (fun w' (hu : Upd Non w w') => rCheck va a w' hna (hA.non hu))
  have hl := encR_len a
  obtain ⟨aa, ac, rfl, halc, hac, hacell⟩ := parts_at hA
  clear hacell
  by_cases h : 1000 < a.length
  · have h1' : (1000 : Int) < a.length := by omega
    go_enter Try.func6, Try.ntmps6
    go_wp2_with fail
    refine (lives02 _).mono ?_
    rintro e w1 ⟨rfl, hu1⟩
    go_wp2_with fail
    go_ret
    exact ⟨rfl, hu1⟩
  · have h1' : ¬ (1000 : Int) < a.length := by omega
    generalize encR a = q at *
    obtain ⟨x, e⟩ := q
    simp only at hl
    have hbh := Lib.hid (fun w => tBehind x w (by omega))
    have hx : x.length + 1 ≤ 9223372036854775807 := by omega
    have hcat : (⟨x.toArray⟩ : ByteArray) ++ ⟨#[255]⟩ = ⟨(x ++ [255]).toArray⟩ := ByteArray.mk_append_mk x [255]
    clear hl
    go_enter Try.func6, Try.ntmps6
    go_wp2_with fail
    refine ea.out.mono ?_
    rintro e w1 ⟨rfl, hu1⟩
    go_wp2_with fail
    refine (eb.out _ hu1).mono ?_
    rintro e w2 ⟨rfl, hu2⟩
    have hu2 := hu1.trans hu2 fun _ _ h => h
    clear hu1
    go_wp2_with fail
    refine (ca.out _ hu2).mono ?_
    rintro e w3 ⟨rfl, hu3⟩
    have hu3 := hu2.trans hu3 fun _ _ h => h
    clear hu2
    go_wp2_with fail
    refine (cb.out _ hu3).mono ?_
    rintro e w4 ⟨rfl, hu4⟩
    have hu4 := hu3.trans hu4 fun _ _ h => h
    clear hu3
    go_wp2_with fail
    refine (hbh.out _).mono ?_
    rintro e w5 ⟨rfl, rfl⟩
    go_wp2_with fail
    refine (lives02 _).mono ?_
    rintro e w9 ⟨rfl, hu9⟩
    go_wp2_with fail
    go_ret
    exact ⟨rfl, hu4.trans hu9 fun _ _ h => h⟩

/-! ### Keys that are joined -/
theorem encR_append {a b : List Part} (h1 : (encR a).2 = 0) (h2 : (encR b).2 = 0) : encR (a ++ b) = if (encB a).length + (encB b).length ≤ 128 then (encB a ++ encB b, 0) else ([], 5) := by
  obtain ⟨ra, la, qa⟩ := encR_fine h1
  obtain ⟨rb, lb, qb⟩ := encR_fine h2
  unfold encR
  rw [if_pos (by rw [List.all_append, ra, rb]; rfl), encB_append, List.length_append]
theorem encR_append_err {a b : List Part} (h : ¬ ((encR a).2 = 0 ∧ (encR b).2 = 0)) : (encR (a ++ b)).2 ≠ 0 := by
  intro h0
  obtain ⟨r, l, _⟩ := encR_fine h0
  rw [List.all_append, Bool.and_eq_true] at r
  rw [encB_append, List.length_append] at l
  refine h ⟨?_, ?_⟩
  · rw [encR_ok r.1 (by omega)]
  · rw [encR_ok r.2 (by omega)]
theorem pcs_append (a b : List Part) : pcs (a ++ b) = pcs a ++ pcs b := by simp [pcs]
theorem pcs_one (l : List Part) : ∀ u ∈ pcs l, u.oneCell' = true := by
  intro u hu
  obtain ⟨p, _, hp⟩ := List.mem_flatMap.1 hu
  simp [pc] at hp
  rcases hp with rfl | rfl | rfl <;> rfl
theorem info_part : (Try.prog.info? 46).map (fun i => (i.zero, i.size, i.bytes)) = some (some (.agg #[.int .i64 0, .int .i64 0, .string ⟨#[]⟩]), 3, 32) := by kernel_rfl

theorem own_parts {w : World} {base : Nat} {v : Value} {l l' : List Part} {N : Nat} (h : w.ownsRow base 46 3 v N (pcs l ++ pcs l')) (hN : N = l.length + l'.length) : w.ownsRow base 46 3 v (l ++ l').length (pcs (l ++ l')) := by
  rw [pcs_append, List.length_append, ← hN]; exact h


set_option maxHeartbeats 2000000 in
theorem joins_any (va vb : Value) (a b : List Part) (w : World) (hna : OkP a) (hnb : OkP b) (hA : Parts w va a) (hB : Parts w vb b) :
    Calls Try.prog 5 #[va, vb] w (Ret (.bool true) w) := by
  have ea := Lib.hid (tEncode va a w hna hA)
  have eb := Lib.hid (fun w' (hu : Upd Non w w') => tEncode vb b w' hnb (hB.non hu))
  have hok : OkP (a ++ b) := fun p hp => (List.mem_append.1 hp).elim (hna p) (hnb p)
  have ej := fun v w' (h : Parts w' v (a ++ b)) => tEncode v (a ++ b) w' hok h
  have hi := Lib.hid (@info_part)
  obtain ⟨aa, ac, rfl, halc, hac, hacell⟩ := parts_at hA
  obtain ⟨ba, bc', rfl, hblc, hbc, hbcell⟩ := parts_at hB
  clear hacell hbcell
  by_cases h : 1000 < a.length ∨ 1000 < b.length
  · by_cases h1 : 1000 < a.length
    · have h1' : decide ((a.length : Int) ≤ 1000) = false := by simp; omega
      have hf1 := lfew aa a.length ac w
      rw [h1'] at hf1
      replace hf1 := Lib.hid hf1
      go_enter Try.func5, Try.ntmps5
      go_wp2_with fail
      refine hf1.out.mono ?_
      rintro e w1 ⟨rfl, rfl⟩
      go_wp2_with fail
      refine (lives02 _).mono ?_
      rintro e w1 ⟨rfl, hu1⟩
      go_wp2_with fail
      go_ret
      exact ⟨rfl, hu1⟩
    · have h1' : decide ((a.length : Int) ≤ 1000) = true := by simp; omega
      have h2' : decide ((b.length : Int) ≤ 1000) = false := by simp; omega
      have hf1 := lfew aa a.length ac w
      have hf2 := lfew ba b.length bc' w
      rw [h1'] at hf1
      rw [h2'] at hf2
      replace hf1 := Lib.hid hf1
      replace hf2 := Lib.hid hf2
      go_enter Try.func5, Try.ntmps5
      go_wp2_with fail
      refine hf1.out.mono ?_
      rintro e w1 ⟨rfl, rfl⟩
      go_wp2_with fail
      refine hf2.out.mono ?_
      rintro e w1 ⟨rfl, rfl⟩
      go_wp2_with fail
      refine (lives02 _).mono ?_
      rintro e w1 ⟨rfl, hu1⟩
      go_wp2_with fail
      go_ret
      exact ⟨rfl, hu1⟩
  · have h1' : decide ((a.length : Int) ≤ 1000) = true := by simp; omega
    have h2' : decide ((b.length : Int) ≤ 1000) = true := by simp; omega
    have hf1 := lfew aa a.length ac w
    have hf2 := lfew ba b.length bc' w
    rw [h1'] at hf1
    rw [h2'] at hf2
    replace hf1 := Lib.hid hf1
    replace hf2 := Lib.hid hf2
    clear h
    have la : a.length ≤ 1000 := by have := of_decide_eq_true h1'; omega
    have lb : b.length ≤ 1000 := by have := of_decide_eq_true h2'; omega
    replace hA := Lib.hid hA
    replace hB := Lib.hid hB
    by_cases g : (encR a).2 = 0 ∧ (encR b).2 = 0
    · obtain ⟨g1, g2⟩ := g
      have hj := encR_append g1 g2
      obtain ⟨_, qla, qa⟩ := encR_fine g1
      obtain ⟨_, qlb, qb⟩ := encR_fine g2
      rw [hj] at ej
      rw [qa] at ea
      rw [qb] at eb
      clear g1 g2 hj qa qb
      generalize encB a = x at *
      generalize encB b = y at *
      have hxy : x.length + y.length ≤ 9223372036854775807 := by omega
      have hcat : (⟨x.toArray⟩ : ByteArray) ++ ⟨y.toArray⟩ = ⟨(x ++ y).toArray⟩ := ByteArray.mk_append_mk x y
      by_cases h128 : x.length + y.length ≤ 128
      · rw [if_pos h128] at ej
        have h128' : ¬ (128 : Int) < (x.length : Int) + y.length := by omega
        replace ej := Lib.hid ej
        go_enter Try.func5, Try.ntmps5
        go_wp2_with fail
        refine hf1.out.mono ?_
        rintro e w0 ⟨rfl, rfl⟩
        go_wp2_with fail
        refine hf2.out.mono ?_
        rintro e w0 ⟨rfl, rfl⟩
        go_wp2_with fail
        refine ea.out.mono ?_
        rintro e w1 ⟨rfl, hu1⟩
        go_wp2_with fail
        refine (eb.out _ hu1).mono ?_
        rintro e w2 ⟨rfl, hu2⟩
        have hu2 := hu1.trans hu2 fun _ _ h => h
        clear hu1
        go_wp2_with (at_builtin; go_must (refine wpList_app rfl _ _ 22 22 rfl w2.heap.size 46 (.agg #[.int .i64 0, .int .i64 0, .string ⟨#[]⟩]) 3 32 Try.underlying22 hi.out rfl _ 0 [] rfl (World.ownsRow_lit (size := 3) w2 #[] 0 (Nat.le_refl _) (Nat.zero_le _) rfl) (.slice aa a.length ac) a.length (pcs a) rfl (Src.ofHas Try.underlying22 ((hA.out.non hu2).non (Upd.alloc Non w2 _)) (pcs_one a)) (by unfold maxLen; omega) (by omega) (by simp) ?_))
        intro v3 w3 ho3 hu3 hf3
        have hU3 : Upd Non w2 w3 := (Upd.alloc Non w2 _).trans hu3 fun j hj h => by simp [At, Value.ownBlock] at h; omega
        have ho3 : w3.ownsRow w2.heap.size 46 3 v3 a.length (pcs a) := by simpa using ho3
        have hz3 := hU3.size
        clear hu3 hf3
        go_wp2_with (at_builtin; go_must (refine wpList_app rfl _ _ 22 22 rfl w2.heap.size 46 (.agg #[.int .i64 0, .int .i64 0, .string ⟨#[]⟩]) 3 32 Try.underlying22 hi.out rfl v3 a.length (pcs a) rfl ho3 (.slice ba b.length bc') b.length (pcs b) rfl (Src.ofHas Try.underlying22 ((hB.out.non hu2).non hU3) (pcs_one b)) (by unfold maxLen; omega) (by omega) hz3 ?_))
        intro v4 w4 ho4 hu4 hf4
        have hU4 : Upd Non w2 w4 := hU3.trans hu4 fun j hj h => absurd (own_ge ho3 h) (by omega)
        have ho4 := has_of_owns (own_parts ho4 rfl)
        clear hu4 hf4 ho3 hU3
        go_wp2_with fail
        refine (ej.out _ _ ho4).mono ?_
        rintro e w5 ⟨rfl, hu5⟩
        have hu5 := hu2.trans (hU4.trans hu5 fun _ _ h => h) fun _ _ h => h
        clear hu2 hU4 ho4
        go_wp2_with fail
        refine (lives02 _).mono ?_
        rintro e w9 ⟨rfl, hu9⟩
        go_wp2_with fail
        go_ret
        exact ⟨rfl, hu5.trans hu9 fun _ _ h => h⟩
      · rw [if_neg h128] at ej
        have h128' : (128 : Int) < (x.length : Int) + y.length := by omega
        replace ej := Lib.hid ej
        go_enter Try.func5, Try.ntmps5
        go_wp2_with fail
        refine hf1.out.mono ?_
        rintro e w0 ⟨rfl, rfl⟩
        go_wp2_with fail
        refine hf2.out.mono ?_
        rintro e w0 ⟨rfl, rfl⟩
        go_wp2_with fail
        refine ea.out.mono ?_
        rintro e w1 ⟨rfl, hu1⟩
        go_wp2_with fail
        refine (eb.out _ hu1).mono ?_
        rintro e w2 ⟨rfl, hu2⟩
        have hu2 := hu1.trans hu2 fun _ _ h => h
        clear hu1
        go_wp2_with (at_builtin; go_must (refine wpList_app rfl _ _ 22 22 rfl w2.heap.size 46 (.agg #[.int .i64 0, .int .i64 0, .string ⟨#[]⟩]) 3 32 Try.underlying22 hi.out rfl _ 0 [] rfl (World.ownsRow_lit (size := 3) w2 #[] 0 (Nat.le_refl _) (Nat.zero_le _) rfl) (.slice aa a.length ac) a.length (pcs a) rfl (Src.ofHas Try.underlying22 ((hA.out.non hu2).non (Upd.alloc Non w2 _)) (pcs_one a)) (by unfold maxLen; omega) (by omega) (by simp) ?_))
        intro v3 w3 ho3 hu3 hf3
        have hU3 : Upd Non w2 w3 := (Upd.alloc Non w2 _).trans hu3 fun j hj h => by simp [At, Value.ownBlock] at h; omega
        have ho3 : w3.ownsRow w2.heap.size 46 3 v3 a.length (pcs a) := by simpa using ho3
        have hz3 := hU3.size
        clear hu3 hf3
        go_wp2_with (at_builtin; go_must (refine wpList_app rfl _ _ 22 22 rfl w2.heap.size 46 (.agg #[.int .i64 0, .int .i64 0, .string ⟨#[]⟩]) 3 32 Try.underlying22 hi.out rfl v3 a.length (pcs a) rfl ho3 (.slice ba b.length bc') b.length (pcs b) rfl (Src.ofHas Try.underlying22 ((hB.out.non hu2).non hU3) (pcs_one b)) (by unfold maxLen; omega) (by omega) hz3 ?_))
        intro v4 w4 ho4 hu4 hf4
        have hU4 : Upd Non w2 w4 := hU3.trans hu4 fun j hj h => absurd (own_ge ho3 h) (by omega)
        have ho4 := has_of_owns (own_parts ho4 rfl)
        clear hu4 hf4 ho3 hU3
        go_wp2_with fail
        refine (ej.out _ _ ho4).mono ?_
        rintro e w5 ⟨rfl, hu5⟩
        have hu5 := hu2.trans (hU4.trans hu5 fun _ _ h => h) fun _ _ h => h
        clear hu2 hU4 ho4
        go_wp2_with fail
        refine (lives02 _).mono ?_
        rintro e w9 ⟨rfl, hu9⟩
        go_wp2_with fail
        go_ret
        exact ⟨rfl, hu5.trans hu9 fun _ _ h => h⟩
    · have hj := encR_append_err g
      have hj2 := encR_err hj
      have gg : ((encR a).2 == 0 && (encR b).2 == 0) = false := by
        rw [Bool.and_eq_false_iff]
        by_cases g1 : (encR a).2 = 0
        · right; simp; exact fun h => g ⟨g1, h⟩
        · left; simp [g1]
      clear g
      generalize encR (a ++ b) = z at *
      generalize encR a = x at *
      generalize encR b = y at *
      obtain ⟨x1, x2⟩ := x
      obtain ⟨y1, y2⟩ := y
      obtain ⟨z1, z2⟩ := z
      simp only at gg hj hj2
      subst hj2
      have g3 : (z2 == 0) = false := by simp [hj]
      have g3b : (z2 != 0) = true := by simp only [bne, g3, Bool.not_false]
      clear hj
      replace ej := Lib.hid ej
      cases g1 : (x2 == 0) with
      | true =>
        rw [g1, Bool.true_and] at gg
        obtain rfl : x2 = 0 := by simpa using g1
        clear g1
        have ggb : (y2 != 0) = true := by simp only [bne, gg, Bool.not_false]
        go_enter Try.func5, Try.ntmps5
        go_wp2_with fail
        refine hf1.out.mono ?_
        rintro e w0 ⟨rfl, rfl⟩
        go_wp2_with fail
        refine hf2.out.mono ?_
        rintro e w0 ⟨rfl, rfl⟩
        go_wp2_with fail
        refine ea.out.mono ?_
        rintro e w1 ⟨rfl, hu1⟩
        go_wp2_with fail
        refine (eb.out _ hu1).mono ?_
        rintro e w2 ⟨rfl, hu2⟩
        have hu2 := hu1.trans hu2 fun _ _ h => h
        clear hu1
        go_wp2_with (at_builtin; go_must (refine wpList_app rfl _ _ 22 22 rfl w2.heap.size 46 (.agg #[.int .i64 0, .int .i64 0, .string ⟨#[]⟩]) 3 32 Try.underlying22 hi.out rfl _ 0 [] rfl (World.ownsRow_lit (size := 3) w2 #[] 0 (Nat.le_refl _) (Nat.zero_le _) rfl) (.slice aa a.length ac) a.length (pcs a) rfl (Src.ofHas Try.underlying22 ((hA.out.non hu2).non (Upd.alloc Non w2 _)) (pcs_one a)) (by unfold maxLen; omega) (by omega) (by simp) ?_))
        intro v3 w3 ho3 hu3 hf3
        have hU3 : Upd Non w2 w3 := (Upd.alloc Non w2 _).trans hu3 fun j hj h => by simp [At, Value.ownBlock] at h; omega
        have ho3 : w3.ownsRow w2.heap.size 46 3 v3 a.length (pcs a) := by simpa using ho3
        have hz3 := hU3.size
        clear hu3 hf3
        go_wp2_with (at_builtin; go_must (refine wpList_app rfl _ _ 22 22 rfl w2.heap.size 46 (.agg #[.int .i64 0, .int .i64 0, .string ⟨#[]⟩]) 3 32 Try.underlying22 hi.out rfl v3 a.length (pcs a) rfl ho3 (.slice ba b.length bc') b.length (pcs b) rfl (Src.ofHas Try.underlying22 ((hB.out.non hu2).non hU3) (pcs_one b)) (by unfold maxLen; omega) (by omega) hz3 ?_))
        intro v4 w4 ho4 hu4 hf4
        have hU4 : Upd Non w2 w4 := hU3.trans hu4 fun j hj h => absurd (own_ge ho3 h) (by omega)
        have ho4 := has_of_owns (own_parts ho4 rfl)
        clear hu4 hf4 ho3 hU3
        go_wp2_with fail
        refine (ej.out _ _ ho4).mono ?_
        rintro e w5 ⟨rfl, hu5⟩
        have hu5 := hu2.trans (hU4.trans hu5 fun _ _ h => h) fun _ _ h => h
        clear hu2 hU4 ho4
        go_wp2_with fail
        refine (lives02 _).mono ?_
        rintro e w9 ⟨rfl, hu9⟩
        go_wp2_with fail
        go_ret
        exact ⟨rfl, hu5.trans hu9 fun _ _ h => h⟩
      | false =>
        clear gg
        have ggb : (x2 != 0) = true := by simp only [bne, g1, Bool.not_false]
        go_enter Try.func5, Try.ntmps5
        go_wp2_with fail
        refine hf1.out.mono ?_
        rintro e w0 ⟨rfl, rfl⟩
        go_wp2_with fail
        refine hf2.out.mono ?_
        rintro e w0 ⟨rfl, rfl⟩
        go_wp2_with fail
        refine ea.out.mono ?_
        rintro e w1 ⟨rfl, hu1⟩
        go_wp2_with fail
        refine (eb.out _ hu1).mono ?_
        rintro e w2 ⟨rfl, hu2⟩
        have hu2 := hu1.trans hu2 fun _ _ h => h
        clear hu1
        go_wp2_with (at_builtin; go_must (refine wpList_app rfl _ _ 22 22 rfl w2.heap.size 46 (.agg #[.int .i64 0, .int .i64 0, .string ⟨#[]⟩]) 3 32 Try.underlying22 hi.out rfl _ 0 [] rfl (World.ownsRow_lit (size := 3) w2 #[] 0 (Nat.le_refl _) (Nat.zero_le _) rfl) (.slice aa a.length ac) a.length (pcs a) rfl (Src.ofHas Try.underlying22 ((hA.out.non hu2).non (Upd.alloc Non w2 _)) (pcs_one a)) (by unfold maxLen; omega) (by omega) (by simp) ?_))
        intro v3 w3 ho3 hu3 hf3
        have hU3 : Upd Non w2 w3 := (Upd.alloc Non w2 _).trans hu3 fun j hj h => by simp [At, Value.ownBlock] at h; omega
        have ho3 : w3.ownsRow w2.heap.size 46 3 v3 a.length (pcs a) := by simpa using ho3
        have hz3 := hU3.size
        clear hu3 hf3
        go_wp2_with (at_builtin; go_must (refine wpList_app rfl _ _ 22 22 rfl w2.heap.size 46 (.agg #[.int .i64 0, .int .i64 0, .string ⟨#[]⟩]) 3 32 Try.underlying22 hi.out rfl v3 a.length (pcs a) rfl ho3 (.slice ba b.length bc') b.length (pcs b) rfl (Src.ofHas Try.underlying22 ((hB.out.non hu2).non hU3) (pcs_one b)) (by unfold maxLen; omega) (by omega) hz3 ?_))
        intro v4 w4 ho4 hu4 hf4
        have hU4 : Upd Non w2 w4 := hU3.trans hu4 fun j hj h => absurd (own_ge ho3 h) (by omega)
        have ho4 := has_of_owns (own_parts ho4 rfl)
        clear hu4 hf4 ho3 hU3
        go_wp2_with fail
        refine (ej.out _ _ ho4).mono ?_
        rintro e w5 ⟨rfl, hu5⟩
        have hu5 := hu2.trans (hU4.trans hu5 fun _ _ h => h) fun _ _ h => h
        clear hu2 hU4 ho4
        go_wp2_with fail
        refine (lives02 _).mono ?_
        rintro e w9 ⟨rfl, hu9⟩
        go_wp2_with fail
        go_ret
        exact ⟨rfl, hu5.trans hu9 fun _ _ h => h⟩
end Go.Proofs.Ytnlmdagmhfcdeaa
