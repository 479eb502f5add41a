/- The walk over ambrylaw07.step. -/
import Derived.Test.YteeppclnmjlcbaaAllocApartW
import Derived.Deep.RegionHeld3
namespace Go.Proofs.Yteeppclnmjlcbaa
open Go.RowKit Go.Amb
set_option linter.unusedVariables false

theorem Upd.own3 {S : Nat → Prop} {w w1 : World} {ca cb cc : Array Value} {ea eb ec : TypeId} (hu : Upd S (((w.alloc (.cells ca ea)).alloc (.cells cb eb)).alloc (.cells cc ec)) w1) (hS : ∀ k, S k → k < w.heap.size) :
    (∀ j, w1.cell? ⟨w.heap.size, j, none⟩ = ca[j]?) ∧ (∀ j, w1.cell? ⟨w.heap.size + 1, j, none⟩ = cb[j]?) ∧ (∀ j, w1.cell? ⟨w.heap.size + 1 + 1, j, none⟩ = cc[j]?) ∧ (∀ j, w1.frozen? ⟨w.heap.size + 1 + 1, j, none⟩ = false) ∧ w.heap.size + 3 ≤ w1.heap.size ∧ Upd S w w1 := by
  have h1 : w1.heap[w.heap.size]? = some (.cells ca ea (0, 0)) :=
    (((((Upd.refl S _).then_alloc _).then_alloc _).trans hu fun _ _ h => h)).heap (heap_alloc_new w _) fun h => by have := hS _ h; omega
  have h2 : w1.heap[w.heap.size + 1]? = some (.cells cb eb (0, 0)) := by
    have := ((((Upd.refl S ((w.alloc (.cells ca ea)).alloc (.cells cb eb))).then_alloc _).trans hu fun _ _ h => h)).heap (heap_alloc_new (w.alloc (.cells ca ea)) (.cells cb eb)) fun h => by have := hS _ h; simp at this; omega
    simpa using this
  have h3 : w1.heap[w.heap.size + 1 + 1]? = some (.cells cc ec (0, 0)) := by
    have := hu.heap (heap_alloc_new ((w.alloc (.cells ca ea)).alloc (.cells cb eb)) (.cells cc ec)) fun h => by have := hS _ h; simp at this; omega
    simpa using this
  refine ⟨(cells_of h1).1, (cells_of h2).1, (cells_of h3).1, (cells_of h3).2, ?_, (((((Upd.refl S _).then_alloc _).then_alloc _).then_alloc _).trans hu fun _ _ h => h)⟩
  have := hu.size; simp at this; omega
theorem keep3 {w3 : World} {M b1 o1 : Nat} {x1 u : Value} (h1 : b1 ≠ M) (y1 : w3.cell? ⟨b1, o1, none⟩ = some x1) : (w3.setCell ⟨M, 0, none⟩ u).cell? ⟨b1, o1, none⟩ = some x1 :=
  (Upd.setCell (S := fun k => k = M) w3 (a := ⟨M, 0, none⟩) rfl u).cell y1 h1
theorem Ours.store {w0 w : World} {r g n B M : Nat} (h : Ours w0 w r g n B) (hM : w0.heap.size ≤ M) (h1 : r ≠ M) (h2 : g ≠ M) (u : Value) : Ours w0 (w.setCell ⟨M, 0, none⟩ u) r g n B :=
  h.beside (Upd.setCell (S := fun j => j = M) w (a := ⟨M, 0, none⟩) rfl u) hM h1 h2
/-- What a call of both tells. -/
def Stepped (w0 w : World) (r g n : Nat) (v : Value) : Ending → World → Prop := fun e w' => ∃ r' g' v' B', e = .returned (.tuple #[.pointer (some ⟨r', 0, none⟩), .agg #[v'], .bool true]) ∧ Ours w0 w' r' g' n B' ∧ Pages w' v' B' n ∧
  (∀ q, At v' q → q ≠ g') ∧ Upd (fun j => j = g) w w' ∧ (∀ q, At v' q → At v q ∨ w.heap.size ≤ q) ∧ ((r' = r ∧ g' = g) ∨ (w.heap.size ≤ r' ∧ w.heap.size ≤ g'))
set_option maxHeartbeats 4000000 in
theorem lStep {w0 w : World} {r g n B : Nat} (hO : Ours w0 w r g n B) (v : Value) (hP : Pages w v B n) (hv : ∀ q, At v q → q ≠ g) (x : Act3) (hx : okAct x) : Calls Try.prog 18 #[.pointer (some ⟨r, 0, none⟩), .agg #[v], .agg #[.int .i64 x.1, .int .i64 x.2.1, .int .i64 x.2.2]] w (Stepped w0 w r g n v) := by
  obtain ⟨k, i, q⟩ := x
  obtain ⟨⟨o1, o2⟩, ⟨o3, o4⟩, o5, o6⟩ := hx
  have hn : 1 ≤ n ∧ n ≤ 16384 := ⟨hO.at_.pos, hO.at_.most⟩
  have hgl : g < w.heap.size := hO.at_.live.2
  have hlv : ∀ q, At v q → q < w.heap.size := by
    intro q hq
    obtain ⟨a, c, rfl, _, _, hc⟩ := pages_at hP
    obtain ⟨g', off, rfl, hc0⟩ := hc 0 (by omega)
    have := World.block_lt_of_cell? w _ hc0
    simp [At, Value.ownBlock] at hq
    subst hq
    exact this
  obtain ⟨a, c, rfl, -⟩ := pages_at hP
  simp only at *
  by_cases hk1 : k = 1
  · subst hk1
    have hr := Lib.hid (fun w h => refClaim (.slice a n c) n B i w h hn (by omega))
    go_enter Try.func18, Try.ntmps18
    go_wp2_with fail
    refine (hr.out _ (hP.non (by (repeat (first | (with_reducible exact Upd.refl _ _) | (with_reducible assumption) | (with_reducible refine Upd.then_drew ?_) | (with_reducible refine Upd.then_drewN ?_ _) | (with_reducible refine Upd.then_alloc ?_ _) | (with_reducible refine Upd.then_setCell ?_ (fun h => absurd h (by simp <;> omega)) _) | (with_reducible refine Upd.trans ?_ (Upd.non (by assumption)) (fun _ _ h => h))))))).mono ?_
    rintro e w1 ⟨v1, rfl, hP1, hu1, hf1⟩
    obtain ⟨a1, c1, hv1, -⟩ := pages_at hP1
    subst hv1
    obtain ⟨-, y1, y2, y3, hz, hU1⟩ := Upd.own3 hu1 (fun _ h => h.elim)
    have hUx := Upd.alloc Non w1 (.cells #[.slice a1 n c1] 44)
    have z9 := (cells_of (heap_alloc_new w1 (.cells #[.slice a1 n c1] 44))).1 0
    have z1 := hUx.cell (y1 1) fun h => h
    have z2 := hUx.cell (y1 2) fun h => h
    have m2 := hUx.cell (y2 0) fun h => h
    have m3 := (World.frozen?_of_block (a := ⟨w.heap.size + 1 + 1, 0, none⟩) (hUx.block (w.heap.size + 1 + 1) (by omega) fun h => h)).trans (y3 0)
    have hO1 := Lib.hid ((hO.non hU1).non (hUx.then_drew))
    have hOx := Lib.hid ((hO.non hU1).non hUx)
    clear y1 y2 y3 hr
    replace hf1 : Hid (∀ q, At (.slice a1 n c1) q → q ≠ g ∧ q ≠ w.heap.size + 1 + 1 ∧ (At (.slice a n c) q ∨ w.heap.size ≤ q)) := fun q hq => by
      rcases hf1 q hq with h | h
      · have h1 := hv q h; have h2 := hlv q h; exact ⟨h1, by omega, .inl h⟩
      · simp at h; exact ⟨by omega, by omega, .inr (by omega)⟩
    replace hv := Lib.hid hv
    replace hlv := Lib.hid hlv
    go_wp2_with fail
    go_region_held3 (fun w' => w'.cell? ⟨w1.heap.size, 0, none⟩ = some (.slice a1 n c1) ∧ w'.cell? ⟨w.heap.size + 1, 1, none⟩ = some (.int .i64 i)) (first | exact ⟨keep3 (by omega) q9, keep3 (by omega) q1⟩ | exact ⟨q9, q1⟩ | exact ⟨z9, z1⟩ | go_keep)
      ((go_at_call 22; refine (oClaim hO1.out i).mono ?_; rintro e w2 ⟨rfl, hO2, hu2⟩; have q9 := hu2.cell (a := ⟨w1.heap.size, 0, none⟩) z9 (by dsimp only; omega); have q1 := hu2.cell (a := ⟨w.heap.size + 1, 1, none⟩) z1 (by dsimp only; omega); have q2 := hu2.cell (a := ⟨w.heap.size + 1 + 1, 0, none⟩) m2 (by dsimp only; omega); have q3 := (World.frozen?_of_block (a := ⟨w.heap.size + 1 + 1, 0, none⟩) (hu2.block (w.heap.size + 1 + 1) (by simp; omega) (by show ¬ _ = _; omega))).trans m3))
    all_goals
      go_wp2_with fail
      refine bodyPost_ret (v := .tuple #[.pointer (some ⟨r, 0, none⟩), .agg #[.slice a1 n c1], .bool true]) (by simp [results, Try.results18, go_sem, q2, q3]; try rfl) rfl ?_
      have hf := hf1.out
      have hrl := hO.at_.live.1
      have h00 := hO.upd.size
      have hUg : Upd (fun j => j = g) w1 w2 := (((Upd.refl _ _).then_alloc _).then_drew).trans hu2 fun _ _ h => h
      exact ⟨r, g, _, _, rfl, hO2.store (by omega) (by omega) (by omega) _, (hP1.upd hUg fun q hq => (hf q hq).1).upd (Upd.setCell (S := fun j => j = w.heap.size + 1 + 1) w2 (a := ⟨w.heap.size + 1 + 1, 0, none⟩) rfl _) fun q hq => (hf q hq).2.1, fun q hq => (hf q hq).1, ((Upd.non hU1).trans hUg fun _ _ h => h).then_setCell (fun h => by simp at h; omega) _, fun q hq => (hf q hq).2.2, .inl ⟨rfl, rfl⟩⟩
  · have n1 : (k == 1) = false := by simpa using hk1
    by_cases hk2 : k = 2
    · subst hk2
      clear hk1 n1
      have hr := Lib.hid (fun w h => refGive (.slice a n c) n B i q w h hn (by omega) (by omega))
      go_enter Try.func18, Try.ntmps18
      go_wp2_with fail
      refine (hr.out _ (hP.non (by (repeat (first | (with_reducible exact Upd.refl _ _) | (with_reducible assumption) | (with_reducible refine Upd.then_drew ?_) | (with_reducible refine Upd.then_drewN ?_ _) | (with_reducible refine Upd.then_alloc ?_ _) | (with_reducible refine Upd.then_setCell ?_ (fun h => absurd h (by simp <;> omega)) _) | (with_reducible refine Upd.trans ?_ (Upd.non (by assumption)) (fun _ _ h => h))))))).mono ?_
      rintro e w1 ⟨v1, rfl, hP1, hu1, hf1⟩
      obtain ⟨a1, c1, hv1, -⟩ := pages_at hP1
      subst hv1
      obtain ⟨-, y1, y2, y3, hz, hU1⟩ := Upd.own3 hu1 (fun _ h => h.elim)
      have hUx := Upd.alloc Non w1 (.cells #[.slice a1 n c1] 44)
      have z9 := (cells_of (heap_alloc_new w1 (.cells #[.slice a1 n c1] 44))).1 0
      have z1 := hUx.cell (y1 1) fun h => h
      have z2 := hUx.cell (y1 2) fun h => h
      have m2 := hUx.cell (y2 0) fun h => h
      have m3 := (World.frozen?_of_block (a := ⟨w.heap.size + 1 + 1, 0, none⟩) (hUx.block (w.heap.size + 1 + 1) (by omega) fun h => h)).trans (y3 0)
      have hO1 := Lib.hid ((hO.non hU1).non (hUx.then_drew))
      have hOx := Lib.hid ((hO.non hU1).non hUx)
      clear y1 y2 y3 hr
      replace hf1 : Hid (∀ q, At (.slice a1 n c1) q → q ≠ g ∧ q ≠ w.heap.size + 1 + 1 ∧ (At (.slice a n c) q ∨ w.heap.size ≤ q)) := fun q hq => by
        rcases hf1 q hq with h | h
        · have h1 := hv q h; have h2 := hlv q h; exact ⟨h1, by omega, .inl h⟩
        · simp at h; exact ⟨by omega, by omega, .inr (by omega)⟩
      replace hv := Lib.hid hv
      replace hlv := Lib.hid hlv
      go_wp2_with fail
      go_region_held3 (fun w' => w'.cell? ⟨w1.heap.size, 0, none⟩ = some (.slice a1 n c1) ∧ w'.cell? ⟨w.heap.size + 1, 1, none⟩ = some (.int .i64 i) ∧ w'.cell? ⟨w.heap.size + 1, 2, none⟩ = some (.int .i64 q)) (first | exact ⟨keep3 (by omega) q9, keep3 (by omega) q1, keep3 (by omega) q4⟩ | exact ⟨q9, q1, q4⟩ | exact ⟨z9, z1, z2⟩ | go_keep)
        ((go_at_call 14; refine (oGive hO1.out i q (by omega) (by omega)).mono ?_; rintro e w2 ⟨rfl, hO2, hu2⟩; have q9 := hu2.cell (a := ⟨w1.heap.size, 0, none⟩) z9 (by dsimp only; omega); have q1 := hu2.cell (a := ⟨w.heap.size + 1, 1, none⟩) z1 (by dsimp only; omega); have q4 := hu2.cell (a := ⟨w.heap.size + 1, 2, none⟩) z2 (by dsimp only; omega); have q2 := hu2.cell (a := ⟨w.heap.size + 1 + 1, 0, none⟩) m2 (by dsimp only; omega); have q3 := (World.frozen?_of_block (a := ⟨w.heap.size + 1 + 1, 0, none⟩) (hu2.block (w.heap.size + 1 + 1) (by simp; omega) (by show ¬ _ = _; omega))).trans m3))
      all_goals
        go_wp2_with fail
        refine bodyPost_ret (v := .tuple #[.pointer (some ⟨r, 0, none⟩), .agg #[.slice a1 n c1], .bool true]) (by simp [results, Try.results18, go_sem, q2, q3]; try rfl) rfl ?_
        have hf := hf1.out
        have hrl := hO.at_.live.1
        have h00 := hO.upd.size
        have hUg : Upd (fun j => j = g) w1 w2 := (((Upd.refl _ _).then_alloc _).then_drew).trans hu2 fun _ _ h => h
        exact ⟨r, g, _, _, rfl, hO2.store (by omega) (by omega) (by omega) _, (hP1.upd hUg fun q hq => (hf q hq).1).upd (Upd.setCell (S := fun j => j = w.heap.size + 1 + 1) w2 (a := ⟨w.heap.size + 1 + 1, 0, none⟩) rfl _) fun q hq => (hf q hq).2.1, fun q hq => (hf q hq).1, ((Upd.non hU1).trans hUg fun _ _ h => h).then_setCell (fun h => by simp at h; omega) _, fun q hq => (hf q hq).2.2, .inl ⟨rfl, rfl⟩⟩
    · have n2 : (k == 2) = false := by simpa using hk2
      by_cases hk3 : k = 3
      · subst hk3
        clear n1 n2 hk1 hk2
        go_enter Try.func18, Try.ntmps18
        go_wp2_with fail
        refine (aCopy r g n B _ (hO.non (by (repeat (first | (with_reducible exact Upd.refl _ _) | (with_reducible assumption) | (with_reducible refine Upd.then_drew ?_) | (with_reducible refine Upd.then_drewN ?_ _) | (with_reducible refine Upd.then_alloc ?_ _) | (with_reducible refine Upd.then_setCell ?_ (fun h => absurd h (by simp <;> omega)) _) | (with_reducible refine Upd.trans ?_ (Upd.non (by assumption)) (fun _ _ h => h)))))).at_).mono ?_
        rintro e w1 ⟨r', g', rfl, hA, hu1, hr', hg'⟩
        obtain ⟨y0, y1, y2, y3, hz, hU1⟩ := Upd.own3 hu1 (fun _ h => h.elim)
        have hO1 := hO.non hU1
        have z0 := y0 0
        have z2 := y2 0
        have z3 := y3 0
        simp only [Go.World.size_alloc] at hr' hg'
        have hB1 : Ours w0 w1 r' g' n B := ⟨hA, hO1.upd, by have := hO.upd.size; omega, by have := hO.upd.size; omega⟩
        clear y0 y1 y2 y3
        go_wp2_with fail
        refine (oTake hO1 1 (by omega)).mono ?_
        rintro e w2 ⟨rfl, -, hu2⟩
        have hB2 := hB1.beside hu2 hO.own (by omega) (by omega)
        have u0 := hu2.cell z0 (by dsimp only; omega)
        have u2 := hu2.cell z2 (by dsimp only; omega)
        have u3 := (World.frozen?_of_block (a := ⟨w.heap.size + 1 + 1, 0, none⟩) (hu2.block (w.heap.size + 1 + 1) (by omega) (by show ¬ _ = _; omega))).trans z3
        have hUg : Upd (fun j => j = g) w w2 := (Upd.non hU1).trans hu2 fun _ _ h => h
        have hP2 := hP.upd hUg hv
        clear hO1 hB1 hu2 z0 z2 z3 hA hu1 hU1
        replace hv := Lib.hid hv
        replace hlv := Lib.hid hlv
        go_wp2_with fail
        go_region_held3 (fun w' => w'.cell? ⟨w.heap.size, 0, none⟩ = some (.slice a n c)) (first | exact keep3 (by omega) u0 | exact u0 | go_keep) (fail)
        all_goals
          go_wp2_with fail
          refine bodyPost_ret (v := .tuple #[.pointer (some ⟨r', 0, none⟩), .agg #[.slice a n c], .bool true]) (by simp [results, Try.results18, go_sem, u2, u3]; try rfl) rfl ?_
          have h00 := hO.upd.size
          have hl2 := hlv.out
          exact ⟨r', g', _, B, rfl, (hB2.store (by omega) (by omega) (by omega) _).non (Upd.drew _ _), (hP2.upd (Upd.setCell (S := fun j => j = w.heap.size + 1 + 1) w2 (a := ⟨w.heap.size + 1 + 1, 0, none⟩) rfl _) fun q hq => by have := hl2 q hq; omega).non (Upd.drew _ _), fun q hq => by have := hl2 q hq; omega, (hUg.then_setCell (fun h => by simp at h; omega) _).then_drew, fun q hq => .inl hq, .inr ⟨by omega, by omega⟩⟩
      · have n3 : (k == 3) = false := by simpa using hk3
        have hr := Lib.hid (fun w h => refTake (.slice a n c) n B q w h hn (by omega))
        go_enter Try.func18, Try.ntmps18
        go_wp2_with fail
        refine (hr.out _ (hP.non (by (repeat (first | (with_reducible exact Upd.refl _ _) | (with_reducible assumption) | (with_reducible refine Upd.then_drew ?_) | (with_reducible refine Upd.then_drewN ?_ _) | (with_reducible refine Upd.then_alloc ?_ _) | (with_reducible refine Upd.then_setCell ?_ (fun h => absurd h (by simp <;> omega)) _) | (with_reducible refine Upd.trans ?_ (Upd.non (by assumption)) (fun _ _ h => h))))))).mono ?_
        rintro e w1 ⟨v1, rfl, hP1, hu1, hf1⟩
        obtain ⟨a1, c1, hv1, -⟩ := pages_at hP1
        subst hv1
        obtain ⟨-, y1, y2, y3, hz, hU1⟩ := Upd.own3 hu1 (fun _ h => h.elim)
        have hUx := Upd.alloc Non w1 (.cells #[.slice a1 n c1] 44)
        have z9 := (cells_of (heap_alloc_new w1 (.cells #[.slice a1 n c1] 44))).1 0
        have z1 := hUx.cell (y1 1) fun h => h
        have z2 := hUx.cell (y1 2) fun h => h
        have m2 := hUx.cell (y2 0) fun h => h
        have m3 := (World.frozen?_of_block (a := ⟨w.heap.size + 1 + 1, 0, none⟩) (hUx.block (w.heap.size + 1 + 1) (by omega) fun h => h)).trans (y3 0)
        have hO1 := Lib.hid ((hO.non hU1).non (hUx.then_drew))
        have hOx := Lib.hid ((hO.non hU1).non hUx)
        clear y1 y2 y3 hr
        replace hf1 : Hid (∀ q, At (.slice a1 n c1) q → q ≠ g ∧ q ≠ w.heap.size + 1 + 1 ∧ (At (.slice a n c) q ∨ w.heap.size ≤ q)) := fun q hq => by
          rcases hf1 q hq with h | h
          · have h1 := hv q h; have h2 := hlv q h; exact ⟨h1, by omega, .inl h⟩
          · simp at h; exact ⟨by omega, by omega, .inr (by omega)⟩
        replace hv := Lib.hid hv
        replace hlv := Lib.hid hlv
        go_wp2_with fail
        refine (oTake hOx.out q (by omega)).mono ?_
        rintro e w2 ⟨rfl, hO2, hu2⟩
        have q9 := hu2.cell (a := ⟨w1.heap.size, 0, none⟩) z9 (by dsimp only; omega)
        have q2 := hu2.cell (a := ⟨w.heap.size + 1 + 1, 0, none⟩) m2 (by dsimp only; omega)
        have q3 := (World.frozen?_of_block (a := ⟨w.heap.size + 1 + 1, 0, none⟩) (hu2.block (w.heap.size + 1 + 1) (by simp; omega) (by show ¬ _ = _; omega))).trans m3
        go_wp2_with fail
        go_region_held3 (fun w' => w'.cell? ⟨w1.heap.size, 0, none⟩ = some (.slice a1 n c1)) (first | exact keep3 (by omega) q9 | exact q9 | go_keep) (fail)
        all_goals
          go_wp2_with fail
          refine bodyPost_ret (v := .tuple #[.pointer (some ⟨r, 0, none⟩), .agg #[.slice a1 n c1], .bool true]) (by simp [results, Try.results18, go_sem, q2, q3]; try rfl) rfl ?_
          have hf := hf1.out
          have hrl := hO.at_.live.1
          have h00 := hO.upd.size
          have hUg : Upd (fun j => j = g) w1 w2 := ((Upd.refl _ _).then_alloc _).trans hu2 fun _ _ h => h
          exact ⟨r, g, _, _, rfl, (hO2.store (by omega) (by omega) (by omega) _).non (Upd.drew _ _), ((hP1.upd hUg fun q hq => (hf q hq).1).upd (Upd.setCell (S := fun j => j = w.heap.size + 1 + 1) w2 (a := ⟨w.heap.size + 1 + 1, 0, none⟩) rfl _) fun q hq => (hf q hq).2.1).non (Upd.drew _ _), fun q hq => (hf q hq).1, (((Upd.non hU1).trans hUg fun _ _ h => h).then_setCell (fun h => by simp at h; omega) _).then_drew, fun q hq => (hf q hq).2.2, .inl ⟨rfl, rfl⟩⟩
end Go.Proofs.Yteeppclnmjlcbaa
