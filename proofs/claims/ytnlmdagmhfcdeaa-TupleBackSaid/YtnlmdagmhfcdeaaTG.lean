/- The walks over comparisons: cmp.Compare, tuple.by, tuple.order. -/
import Derived.Test.YtnlmdagmhfcdeaaTC
import Derived.WalkLawsBesides
namespace Go.Proofs.Ytnlmdagmhfcdeaa
open Go.RowKit Go.Amb
set_option linter.unusedVariables false
attribute [local go_sem ↓] Go.wp_at_zero Go.wp_at_succ

theorem nan_int (x : Int) (w : World) : Calls Try.prog 44 #[.int .i64 x] w fun e w' => e = .returned (.bool false) ∧ w = w' := by
  go_enter Try.func44, Try.ntmps44
  go_wp2_with fail
  go_ret
  exact ⟨rfl, rfl⟩
set_option maxHeartbeats 400000 in
theorem cmp_int (x y : Int) (w : World) : Calls Try.prog 28 #[.int .i64 x, .int .i64 y] w fun e w' => e = .returned (.int .i64 (sgn (decide (x < y)) (decide (y < x)))) ∧ w = w' := by
  have h1 := Lib.hid (nan_int x w)
  have h2 := Lib.hid (nan_int y w)
  rcases Int.lt_trichotomy x y with h | h | h
  · go_enter Try.func28, Try.ntmps28
    go_wp2_with fail
    refine h1.out.mono ?_
    rintro e w1 ⟨rfl, rfl⟩
    go_wp2_with fail
    refine h2.out.mono ?_
    rintro e w1 ⟨rfl, rfl⟩
    go_wp2_with fail
    go_ret
    exact ⟨by simp [sgn, h], rfl⟩
  · subst h
    go_enter Try.func28, Try.ntmps28
    go_wp2_with fail
    refine h1.out.mono ?_
    rintro e w1 ⟨rfl, rfl⟩
    go_wp2_with fail
    refine h2.out.mono ?_
    rintro e w1 ⟨rfl, rfl⟩
    go_wp2_with fail
    go_ret
    exact ⟨by simp [sgn], rfl⟩
  · have hn : ¬ x < y := by omega
    go_enter Try.func28, Try.ntmps28
    go_wp2_with fail
    refine h1.out.mono ?_
    rintro e w1 ⟨rfl, rfl⟩
    go_wp2_with fail
    refine h2.out.mono ?_
    rintro e w1 ⟨rfl, rfl⟩
    go_wp2_with fail
    go_ret
    exact ⟨by simp [sgn, h, hn], rfl⟩
theorem nan_kind (x : Int) (w : World) : Calls Try.prog 52 #[.int .i64 x] w fun e w' => e = .returned (.bool false) ∧ w = w' := by
  go_enter Try.func52, Try.ntmps52
  go_wp2_with fail
  go_ret
  exact ⟨rfl, rfl⟩
set_option maxHeartbeats 400000 in
theorem cmp_kind (x y : Int) (w : World) : Calls Try.prog 50 #[.int .i64 x, .int .i64 y] w fun e w' => e = .returned (.int .i64 (sgn (decide (x < y)) (decide (y < x)))) ∧ w = w' := by
  have h1 := Lib.hid (nan_kind x w)
  have h2 := Lib.hid (nan_kind y w)
  rcases Int.lt_trichotomy x y with h | h | h
  · go_enter Try.func50, Try.ntmps50
    go_wp2_with fail
    refine h1.out.mono ?_
    rintro e w1 ⟨rfl, rfl⟩
    go_wp2_with fail
    refine h2.out.mono ?_
    rintro e w1 ⟨rfl, rfl⟩
    go_wp2_with fail
    go_ret
    exact ⟨by simp [sgn, h], rfl⟩
  · subst h
    go_enter Try.func50, Try.ntmps50
    go_wp2_with fail
    refine h1.out.mono ?_
    rintro e w1 ⟨rfl, rfl⟩
    go_wp2_with fail
    refine h2.out.mono ?_
    rintro e w1 ⟨rfl, rfl⟩
    go_wp2_with fail
    go_ret
    exact ⟨by simp [sgn], rfl⟩
  · have hn : ¬ x < y := by omega
    go_enter Try.func50, Try.ntmps50
    go_wp2_with fail
    refine h1.out.mono ?_
    rintro e w1 ⟨rfl, rfl⟩
    go_wp2_with fail
    refine h2.out.mono ?_
    rintro e w1 ⟨rfl, rfl⟩
    go_wp2_with fail
    go_ret
    exact ⟨by simp [sgn, h, hn], rfl⟩

theorem nan_str (s : ByteArray) (w : World) : Calls Try.prog 53 #[.string s] w fun e w' => e = .returned (.bool false) ∧ w = w' := by
  go_enter Try.func53, Try.ntmps53
  go_wp2_with fail
  go_ret
  exact ⟨by simp, rfl⟩
set_option maxHeartbeats 400000 in
theorem cmp_str (x y : List UInt8) (w : World) : Calls Try.prog 51 #[.string ⟨x.toArray⟩, .string ⟨y.toArray⟩] w fun e w' => e = .returned (.int .i64 (sgn (Op.bytesLess x y) (Op.bytesLess y x))) ∧ w = w' := by
  have h1 := Lib.hid (nan_str ⟨x.toArray⟩ w)
  have h2 := Lib.hid (nan_str ⟨y.toArray⟩ w)
  have hgt : (!Op.bytesLess x y && !(x == y)) = Op.bytesLess y x := by
    by_cases h : x = y
    · subst h; simp [bytesLess_irrefl]
    · cases hb : Op.bytesLess x y with
      | true => simp [bl_asymm x y hb]
      | false => simp [h, bl_total x y h hb]
  cases hb : Op.bytesLess x y with
  | true =>
    have hb2 := bl_asymm x y hb
    go_enter Try.func51, Try.ntmps51
    go_wp2_with fail
    refine h1.out.mono ?_
    rintro e w1 ⟨rfl, rfl⟩
    go_wp2_with fail
    refine h2.out.mono ?_
    rintro e w1 ⟨rfl, rfl⟩
    go_wp2_with fail
    go_ret
    exact ⟨by simp [sgn], rfl⟩
  | false =>
    rw [hb] at hgt
    cases hb2 : Op.bytesLess y x with
    | true =>
      rw [hb2] at hgt
      simp only [Bool.not_false, Bool.true_and] at hgt
      go_enter Try.func51, Try.ntmps51
      go_wp2_with fail
      refine h1.out.mono ?_
      rintro e w1 ⟨rfl, rfl⟩
      go_wp2_with fail
      refine h2.out.mono ?_
      rintro e w1 ⟨rfl, rfl⟩
      go_wp2_with fail
      go_ret
      exact ⟨by simp [sgn], rfl⟩
    | false =>
      rw [hb2] at hgt
      simp only [Bool.not_false, Bool.true_and] at hgt
      go_enter Try.func51, Try.ntmps51
      go_wp2_with fail
      refine h1.out.mono ?_
      rintro e w1 ⟨rfl, rfl⟩
      go_wp2_with fail
      refine h2.out.mono ?_
      rintro e w1 ⟨rfl, rfl⟩
      go_wp2_with fail
      go_ret
      exact ⟨by simp [sgn], rfl⟩

theorem ord_1 (p : Part) (w : World) : Calls Try.prog 38 #[pV p] w (Ret (.int .i64 p.k) w) := by
  go_enter Try.func38, Try.ntmps38
  go_wp2_with fail
  go_ret
  exact ⟨rfl, (Upd.refl _ _).then_alloc _⟩
theorem ord_2 (p : Part) (w : World) : Calls Try.prog 40 #[pV p] w (Ret (.int .i64 p.n) w) := by
  go_enter Try.func40, Try.ntmps40
  go_wp2_with fail
  go_ret
  exact ⟨rfl, (Upd.refl _ _).then_alloc _⟩
theorem ord_3 (p : Part) (w : World) : Calls Try.prog 41 #[pV p] w (Ret (.int .i64 p.n) w) := by
  go_enter Try.func41, Try.ntmps41
  go_wp2_with fail
  go_ret
  exact ⟨rfl, (Upd.refl _ _).then_alloc _⟩
theorem ord_4 (p : Part) (w : World) : Calls Try.prog 43 #[pV p] w (Ret (.string ⟨p.s.toArray⟩) w) := by
  go_enter Try.func43, Try.ntmps43
  go_wp2_with fail
  go_ret
  exact ⟨rfl, (Upd.refl _ _).then_alloc _⟩

theorem held_two {w w' : World} {ca cb : Array Value} {ea eb : TypeId} (hu : Upd Non ((w.alloc (.cells ca ea)).alloc (.cells cb eb)) w') :
    (∀ j, w'.cell? ⟨w.heap.size, j, none⟩ = ca[j]?) ∧ (∀ j, w'.cell? ⟨w.heap.size + 1, j, none⟩ = cb[j]?) ∧ Upd Non ((w.alloc (.cells ca ea)).alloc (.cells cb eb)) w' := by
  have h := hu.own2 (fun _ h => h.elim)
  exact ⟨h.1, h.2.2.1, hu⟩

set_option maxHeartbeats 1000000 in
theorem by_1 (p q : Part) (w : World) : Calls Try.prog 37 #[pV p, pV q, .func (.func 38) #[] #[]] w (Ret (.int .i64 (sgn (decide (p.k < q.k)) (decide (q.k < p.k)))) w) := by
  go_enter Try.func37, Try.ntmps37
  go_wp2_with fail
  go_region_held3 (fun w' => (∀ j, w'.cell? ⟨w.heap.size, j, none⟩ = (#[.int .i64 p.k, .int .i64 p.n, .string ⟨p.s.toArray⟩] : Array Value)[j]?) ∧ (∀ j, w'.cell? ⟨w.heap.size + 1, j, none⟩ = (#[.int .i64 q.k, .int .i64 q.n, .string ⟨q.s.toArray⟩] : Array Value)[j]?) ∧
      Upd Non ((w.alloc (.cells #[.int .i64 p.k, .int .i64 p.n, .string ⟨p.s.toArray⟩] 46)).alloc (.cells #[.int .i64 q.k, .int .i64 q.n, .string ⟨q.s.toArray⟩] 46)) w')
    ((refine held_two ?_; (repeat (first | (with_reducible exact Upd.refl _ _) | (with_reducible assumption) | (with_reducible refine Upd.then_drew ?_) | (with_reducible refine Upd.then_drewN ?_ _) | (with_reducible refine Upd.then_alloc ?_ _) | (with_reducible refine Upd.then_setCell ?_ (fun h => absurd h (by simp <;> omega)) _) | (with_reducible refine Upd.trans ?_ (Upd.non (by assumption)) (fun _ _ h => h))))))
    (first
      | (go_at_call 38; refine (ord_1 p _).mono ?_; rintro e w' ⟨rfl, hu⟩)
      | (go_at_call 38; refine (ord_1 q _).mono ?_; rintro e w' ⟨rfl, hu2⟩)
      | (go_at_call 50; refine (cmp_kind _ _ _).mono ?_; rintro e w' ⟨rfl, rfl⟩))
  go_wp2_with fail
  go_ret
  refine ⟨rfl, ?_⟩
  have hX := (by assumption : _ ∧ _ ∧ Upd Non _ _).2.2
  exact ((Upd.alloc Non w _).trans ((Upd.alloc Non _ _).trans hX fun _ _ h => h) fun _ _ h => h)
set_option maxHeartbeats 1000000 in
theorem by_2 (p q : Part) (w : World) : Calls Try.prog 39 #[pV p, pV q, .func (.func 40) #[] #[]] w (Ret (.int .i64 (sgn (decide (p.n < q.n)) (decide (q.n < p.n)))) w) := by
  go_enter Try.func39, Try.ntmps39
  go_wp2_with fail
  go_region_held3 (fun w' => (∀ j, w'.cell? ⟨w.heap.size, j, none⟩ = (#[.int .i64 p.k, .int .i64 p.n, .string ⟨p.s.toArray⟩] : Array Value)[j]?) ∧ (∀ j, w'.cell? ⟨w.heap.size + 1, j, none⟩ = (#[.int .i64 q.k, .int .i64 q.n, .string ⟨q.s.toArray⟩] : Array Value)[j]?) ∧
      Upd Non ((w.alloc (.cells #[.int .i64 p.k, .int .i64 p.n, .string ⟨p.s.toArray⟩] 46)).alloc (.cells #[.int .i64 q.k, .int .i64 q.n, .string ⟨q.s.toArray⟩] 46)) w')
    ((refine held_two ?_; (repeat (first | (with_reducible exact Upd.refl _ _) | (with_reducible assumption) | (with_reducible refine Upd.then_drew ?_) | (with_reducible refine Upd.then_drewN ?_ _) | (with_reducible refine Upd.then_alloc ?_ _) | (with_reducible refine Upd.then_setCell ?_ (fun h => absurd h (by simp <;> omega)) _) | (with_reducible refine Upd.trans ?_ (Upd.non (by assumption)) (fun _ _ h => h))))))
    (first
      | (go_at_call 40; refine (ord_2 p _).mono ?_; rintro e w' ⟨rfl, hu⟩)
      | (go_at_call 40; refine (ord_2 q _).mono ?_; rintro e w' ⟨rfl, hu2⟩)
      | (go_at_call 28; refine (cmp_int _ _ _).mono ?_; rintro e w' ⟨rfl, rfl⟩))
  go_wp2_with fail
  go_ret
  refine ⟨rfl, ?_⟩
  have hX := (by assumption : _ ∧ _ ∧ Upd Non _ _).2.2
  exact ((Upd.alloc Non w _).trans ((Upd.alloc Non _ _).trans hX fun _ _ h => h) fun _ _ h => h)
set_option maxHeartbeats 1000000 in
theorem by_3 (p q : Part) (w : World) : Calls Try.prog 39 #[pV p, pV q, .func (.func 41) #[] #[]] w (Ret (.int .i64 (sgn (decide (p.n < q.n)) (decide (q.n < p.n)))) w) := by
  go_enter Try.func39, Try.ntmps39
  go_wp2_with fail
  go_region_held3 (fun w' => (∀ j, w'.cell? ⟨w.heap.size, j, none⟩ = (#[.int .i64 p.k, .int .i64 p.n, .string ⟨p.s.toArray⟩] : Array Value)[j]?) ∧ (∀ j, w'.cell? ⟨w.heap.size + 1, j, none⟩ = (#[.int .i64 q.k, .int .i64 q.n, .string ⟨q.s.toArray⟩] : Array Value)[j]?) ∧
      Upd Non ((w.alloc (.cells #[.int .i64 p.k, .int .i64 p.n, .string ⟨p.s.toArray⟩] 46)).alloc (.cells #[.int .i64 q.k, .int .i64 q.n, .string ⟨q.s.toArray⟩] 46)) w')
    ((refine held_two ?_; (repeat (first | (with_reducible exact Upd.refl _ _) | (with_reducible assumption) | (with_reducible refine Upd.then_drew ?_) | (with_reducible refine Upd.then_drewN ?_ _) | (with_reducible refine Upd.then_alloc ?_ _) | (with_reducible refine Upd.then_setCell ?_ (fun h => absurd h (by simp <;> omega)) _) | (with_reducible refine Upd.trans ?_ (Upd.non (by assumption)) (fun _ _ h => h))))))
    (first
      | (go_at_call 41; refine (ord_3 p _).mono ?_; rintro e w' ⟨rfl, hu⟩)
      | (go_at_call 41; refine (ord_3 q _).mono ?_; rintro e w' ⟨rfl, hu2⟩)
      | (go_at_call 28; refine (cmp_int _ _ _).mono ?_; rintro e w' ⟨rfl, rfl⟩))
  go_wp2_with fail
  go_ret
  refine ⟨rfl, ?_⟩
  have hX := (by assumption : _ ∧ _ ∧ Upd Non _ _).2.2
  exact ((Upd.alloc Non w _).trans ((Upd.alloc Non _ _).trans hX fun _ _ h => h) fun _ _ h => h)
set_option maxHeartbeats 1000000 in
theorem by_4 (p q : Part) (w : World) : Calls Try.prog 42 #[pV p, pV q, .func (.func 43) #[] #[]] w (Ret (.int .i64 (sgn (Op.bytesLess p.s q.s) (Op.bytesLess q.s p.s))) w) := by
  go_enter Try.func42, Try.ntmps42
  go_wp2_with fail
  go_region_held3 (fun w' => (∀ j, w'.cell? ⟨w.heap.size, j, none⟩ = (#[.int .i64 p.k, .int .i64 p.n, .string ⟨p.s.toArray⟩] : Array Value)[j]?) ∧ (∀ j, w'.cell? ⟨w.heap.size + 1, j, none⟩ = (#[.int .i64 q.k, .int .i64 q.n, .string ⟨q.s.toArray⟩] : Array Value)[j]?) ∧
      Upd Non ((w.alloc (.cells #[.int .i64 p.k, .int .i64 p.n, .string ⟨p.s.toArray⟩] 46)).alloc (.cells #[.int .i64 q.k, .int .i64 q.n, .string ⟨q.s.toArray⟩] 46)) w')
    ((refine held_two ?_; (repeat (first | (with_reducible exact Upd.refl _ _) | (with_reducible assumption) | (with_reducible refine Upd.then_drew ?_) | (with_reducible refine Upd.then_drewN ?_ _) | (with_reducible refine Upd.then_alloc ?_ _) | (with_reducible refine Upd.then_setCell ?_ (fun h => absurd h (by simp <;> omega)) _) | (with_reducible refine Upd.trans ?_ (Upd.non (by assumption)) (fun _ _ h => h))))))
    (first
      | (go_at_call 43; refine (ord_4 p _).mono ?_; rintro e w' ⟨rfl, hu⟩)
      | (go_at_call 43; refine (ord_4 q _).mono ?_; rintro e w' ⟨rfl, hu2⟩)
      | (go_at_call 51; refine (cmp_str _ _ _).mono ?_; rintro e w' ⟨rfl, rfl⟩))
  go_wp2_with fail
  go_ret
  refine ⟨rfl, ?_⟩
  have hX := (by assumption : _ ∧ _ ∧ Upd Non _ _).2.2
  exact ((Upd.alloc Non w _).trans ((Upd.alloc Non _ _).trans hX fun _ _ h => h) fun _ _ h => h)
end Go.Proofs.Ytnlmdagmhfcdeaa
