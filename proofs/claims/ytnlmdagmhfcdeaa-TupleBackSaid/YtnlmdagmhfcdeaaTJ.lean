/- The walks over ambrylaw02's helpers: the document's examples. -/
import Derived.Test.YtnlmdagmhfcdeaaTH
namespace Go.Proofs.Ytnlmdagmhfcdeaa
open Go.RowKit Go.Amb
set_option linter.unusedVariables false
attribute [local go_sem ↓] Go.wp_at_zero Go.wp_at_succ

theorem ltext (s : List UInt8) (w : World) : Calls Try.prog 25 #[.string ⟨s.toArray⟩] w (Ret (pV ⟨1, 0, s⟩) w) := by
  go_enter Try.func25, Try.ntmps25
  go_wp2_with fail
  go_returns
  exact ⟨rfl, (Upd.refl _ _).then_alloc _⟩
theorem lup (n : Int) (w : World) : Calls Try.prog 26 #[.int .i64 n] w (Ret (pV ⟨2, n, []⟩) w) := by
  go_enter Try.func26, Try.ntmps26
  go_wp2_with fail
  go_returns
  exact ⟨rfl, (Upd.refl _ _).then_alloc _⟩
theorem ldown (n : Int) (w : World) : Calls Try.prog 23 #[.int .i64 n] w (Ret (pV ⟨3, n, []⟩) w) := by
  go_enter Try.func23, Try.ntmps23
  go_wp2_with fail
  go_returns
  exact ⟨rfl, (Upd.refl _ _).then_alloc _⟩
/-- Has a key such bytes? -/
def isB (x : List UInt8) (l : List Part) : Bool := (encR l).1 == x && (encR l).2 == 0
set_option maxHeartbeats 400000 in
theorem lis (x : List UInt8) (v : Value) (l : List Part) (w : World) (hn : ∀ p ∈ l, numOk p ∧ p.s.length ≤ 140737488355328) (hP : Parts w v l) :
    Calls Try.prog 24 #[.string ⟨x.toArray⟩, v] w (Ret (.bool (isB x l)) w) := by
  have he := Lib.hid (tEncode v l w hn hP)
  unfold isB
  generalize encR l = q at *
  obtain ⟨q1, q2⟩ := q
  go_enter Try.func24, Try.ntmps24
  go_wp2_with fail
  refine he.out.mono ?_
  rintro e w1 ⟨rfl, hu1⟩
  by_cases h : q1 = x
  · subst h
    go_wp2_with fail
    go_ret
    exact ⟨by simp, hu1⟩
  · go_wp2_with fail
    go_ret
    exact ⟨by simp [h], hu1⟩

theorem parts_new (w : World) (l : List Part) (hl : l.length ≤ 1000) : Parts (w.alloc (.cells (pcs l).toArray 46)) (.slice (some ⟨w.heap.size, 0, none⟩) l.length l.length) l :=
  has_new w (pcs l) 46 3 l.length (pcs_length l) (by unfold maxLen; omega)

set_option maxRecDepth 100000 in
set_option maxHeartbeats 2000000 in
theorem lives02 (w : World) : Calls Try.prog 10 #[] w (Ret (.bool true) w) := by
  have ok : ∀ l : List Part, (l.all fun p => decide (-9223372036854775808 ≤ p.n) && decide (p.n ≤ 9223372036854775807) && decide (p.s.length ≤ 140737488355328)) = true → ∀ p ∈ l, numOk p ∧ p.s.length ≤ 140737488355328 := by
    intro l h p hp
    have := List.all_eq_true.1 h p hp
    simp at this
    exact ⟨this.1, this.2⟩
  replace ok := Lib.hid ok
  go_enter Try.func10, Try.ntmps10
  go_wp2_with fail
  refine (ldown 2 w).mono ?_
  rintro e w1 ⟨rfl, hu1⟩
  have p1 := Lib.hid (parts_new w1 [⟨3, 2, []⟩] (by decide))
  go_wp2_with fail
  refine (ldown 1 _).mono ?_
  rintro e w2 ⟨rfl, hu2⟩
  have p2 := Lib.hid ((p1.out.non hu2).non (Upd.alloc Non w2 (.cells (pcs [⟨3, 1, []⟩]).toArray 46)))
  have p3 := Lib.hid (parts_new w2 [⟨3, 1, []⟩] (by decide))
  have hU2 := hu1.trans ((Upd.alloc Non w1 _).trans hu2 fun _ _ h => h) fun _ _ h => h
  clear hu1 hu2 p1
  go_wp2_with fail
  refine (tCompare _ _ [⟨3, 2, []⟩] [⟨3, 1, []⟩] _ (ok.out _ (by decide)) (ok.out _ (by decide)) p2.out p3.out).mono ?_
  rintro e w3 ⟨rfl, hu3⟩
  have e1 : cmpR [⟨3, 2, []⟩] [⟨3, 1, []⟩] = (-1, 0) := by decide +kernel
  rw [e1]
  have hU3 := hU2.trans ((Upd.alloc Non w2 _).trans hu3 fun _ _ h => h) fun _ _ h => h
  clear e1 hu3 hU2 p2 p3
  go_wp2_with fail
  refine (ltext [97] _).mono ?_
  rintro e w4 ⟨rfl, hu4⟩
  have hU4 := hU3.trans hu4 fun _ _ h => h
  clear hU3 hu4
  go_wp2_with fail
  refine (lup 1 _).mono ?_
  rintro e w5 ⟨rfl, hu5⟩
  have hU5 := hU4.trans hu5 fun _ _ h => h
  have p5 := Lib.hid (parts_new w5 [⟨1, 0, [97]⟩, ⟨2, 1, []⟩] (by decide))
  clear hU4 hu5
  go_wp2_with fail
  refine (lis [2, 97, 0, 1, 3, 128, 0, 0, 0, 0, 0, 0, 1] _ [⟨1, 0, [97]⟩, ⟨2, 1, []⟩] _ (ok.out _ (by decide)) p5.out).mono ?_
  have e1 : isB [2, 97, 0, 1, 3, 128, 0, 0, 0, 0, 0, 0, 1] [⟨1, 0, [97]⟩, ⟨2, 1, []⟩] = true := by decide +kernel
  rw [e1]
  rintro e w6 ⟨rfl, hu6⟩
  have hU6 := hU5.trans ((Upd.alloc Non w5 _).trans hu6 fun _ _ h => h) fun _ _ h => h
  clear e1 hU5 hu6 p5
  go_wp2_with fail
  refine (ldown 1 _).mono ?_
  rintro e w7 ⟨rfl, hu7⟩
  have hU7 := hU6.trans hu7 fun _ _ h => h
  have p7 := Lib.hid (parts_new w7 [⟨3, 1, []⟩] (by decide))
  clear hU6 hu7
  go_wp2_with fail
  refine (lis [4, 127, 255, 255, 255, 255, 255, 255, 254] _ [⟨3, 1, []⟩] _ (ok.out _ (by decide)) p7.out).mono ?_
  have e1 : isB [4, 127, 255, 255, 255, 255, 255, 255, 254] [⟨3, 1, []⟩] = true := by decide +kernel
  rw [e1]
  rintro e w8 ⟨rfl, hu8⟩
  have hU8 := hU7.trans ((Upd.alloc Non w7 _).trans hu8 fun _ _ h => h) fun _ _ h => h
  clear e1 hU7 hu8 p7
  go_wp2_with fail
  refine (ltext [0] _).mono ?_
  rintro e w9 ⟨rfl, hu9⟩
  have hU9 := hU8.trans hu9 fun _ _ h => h
  have p9 := Lib.hid (parts_new w9 [⟨1, 0, [0]⟩] (by decide))
  clear hU8 hu9
  go_wp2_with fail
  refine (lis [2, 0, 255, 0, 1] _ [⟨1, 0, [0]⟩] _ (ok.out _ (by decide)) p9.out).mono ?_
  have e1 : isB [2, 0, 255, 0, 1] [⟨1, 0, [0]⟩] = true := by decide +kernel
  rw [e1]
  rintro e w10 ⟨rfl, hu10⟩
  have hU10 := hU9.trans ((Upd.alloc Non w9 _).trans hu10 fun _ _ h => h) fun _ _ h => h
  clear e1 hU9 hu10 p9
  go_wp2_with fail
  go_ret
  exact ⟨rfl, hU10⟩
end Go.Proofs.Ytnlmdagmhfcdeaa
