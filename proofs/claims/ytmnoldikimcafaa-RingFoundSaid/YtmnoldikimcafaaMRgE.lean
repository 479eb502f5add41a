/- ring.Open: a ring of a region. -/
import Derived.Test.YtmnoldikimcafaaMRgD
import Derived.Test.YtmnoldikimcafaaMLibF
namespace Go.Proofs.Ytmnoldikimcafaa
open Go.RowKit Go.Amb Go.Shelf
set_option linter.unusedVariables false
set_option linter.unusedSimpArgs false
set_option maxRecDepth 100000
attribute [local go_sem] Oper.semAt_some
/-- The ring that is found. -/
def openS (d : Dk) (fr cn : Nat) (st e : Int) : Rn :=
  let l := runS d ⟨fr, cn, st, st, 0, []⟩ e 0 cn
  if l = [] then ⟨fr, cn, st, st, youngS d fr e cn + 1, []⟩ else ⟨fr, cn, st, (joinS l).next, youngS d fr e cn + 1, (joinS l).out⟩
theorem runS_same (d : Dk) (r r' : Rn) (h1 : r.fr = r'.fr) (h2 : r.cn = r'.cn) (h3 : r.st = r'.st) : ∀ (n : Nat) (e : Int) (k : Nat), runS d r e k n = runS d r' e k n := by
  intro n
  induction n with
  | zero => intros; rfl
  | succ n ih =>
    intro e k
    have hp : ∀ q, r.place q = r'.place q := fun q => by unfold Rn.place; rw [h1, h2]
    rw [runS, runS, hp, h3, ih]
theorem runS_length (d : Dk) (r : Rn) : ∀ (n : Nat) (e : Int) (k : Nat), (runS d r e k n).length ≤ n := by
  intro n
  induction n with
  | zero => intros; exact Nat.le_refl _
  | succ n ih =>
    intro e k
    rw [runS]
    split
    · rw [List.length_cons]; have := ih (atS d (r.place (r.st + k))).1.e (k + 1); omega
    · exact Nat.zero_le _
theorem lDead {w : World} {D : Nat} {F : Nat → Prop} {d : Dk} (h : DiskAt w D F d) : Calls Try.prog 21 #[.pointer (some ⟨D, 0, none⟩)] w (Ret (.bool d.dd) w) := by
  have cM := lMade h
  obtain ⟨g, ck, pv, hX, hK, hP, h1, h2, h3, hF⟩ := h.ex
  have x3 : w.cell? ⟨D, 3, none⟩ = some (.bool d.dd) := (cells_of hX).1 3
  clear hK hP h1 h2 h3 hF hX h
  generalize d.dd = dd at *
  go_enter Try.func21, Try.ntmps21
  go_wp2_with fail
  refine cM.mono ?_
  rintro en w1 ⟨rfl, hu1⟩
  have x3 := hu1.cell x3 fun h => h
  go_wp2_with fail
  go_ret
  exact ⟨rfl, hu1⟩
theorem lRun (R : Nat) (e : Int) (w : World) : Calls Try.prog 23 #[.pointer (some ⟨R, 0, none⟩), .int .i64 e] w
    (fun en w' => en = .returned (.func (.func 41) #[] #[.pointer (some ⟨w.heap.size, 0, none⟩), .pointer (some ⟨w.heap.size + 1, 0, none⟩)]) ∧ w' = (w.alloc (.cells #[.pointer (some ⟨R, 0, none⟩)] 29)).alloc (.cells #[.int .i64 e] 3)) := by
  go_enter Try.func23, Try.ntmps23
  go_wp2_with fail
  go_ret
  exact ⟨rfl, rfl⟩
/-- Behind i slots: they stand in a row of their own. -/
structure OpI (X : List S5) (Lb b : Nat) (w5 : World) (i : Nat) (W : World) : Prop where
  upd : Upd (fun k => k = Lb ∨ k = b) w5 W
  le : i ≤ X.length
  row : ∃ v, W.heap[Lb]? = some (.cells #[v] 52 (0, 0)) ∧ W.ownsRow (w5.heap.size + 2) 56 5 v i (sc (X.take i))
theorem OpI.next {X : List S5} {Lb b : Nat} {w5 : World} {i : Nat} {W W' : World} (h : OpI X Lb b w5 i W) (hL : Lb ≠ b) (hb : b < w5.heap.size) (hu : Upd (fun k => k = b) W W') : OpI X Lb b w5 i W' := by
  obtain ⟨v, hv, ho⟩ := h.row
  exact ⟨h.upd.trans hu fun k hk e => .inr e, h.le, v, hu.heap hv hL, hu.owns ho fun k hk e => by have := own_ge ho hk; omega⟩
theorem OpI.put {X : List S5} {Lb b : Nat} {w5 : World} {i : Nat} {W : World} (h : OpI X Lb b w5 i W) (hL : Lb < w5.heap.size) {l : Nat} (o : Obj) (h1 : w5.heap.size ≤ l) (h2 : l < w5.heap.size + 2) : OpI X Lb b w5 i (W.putObj l o) := by
  obtain ⟨v, hv, ho⟩ := h.row
  exact ⟨h.upd.put h1 o, h.le, v, (World.putObj_heap_other (by omega)).trans hv, owns_heap ho fun k hk => World.putObj_heap_other (by have := own_ge ho hk; omega)⟩
def AxS (X : List S5) (base : Nat) (a : Act) (i : Nat) (a' : Act) (W : World) : Prop := ∃ (nb : Nat) (x : S5), base ≤ nb ∧ X[i]? = some x ∧ W.heap[nb]? = some (.cells #[.int .i64 x.e, .int .i64 x.q, .bool x.f, .bool x.l, .string ⟨x.d.toArray⟩] 56 (0, 0)) ∧
  a' = { tmps := (a.tmps.setIfInBounds 80 x.v).setIfInBounds 16 (.pointer (some ⟨nb, 0, none⟩)), defers := [] }
set_option maxHeartbeats 4000000 in
theorem lOpen {w : World} {D : Nat} {F : Nat → Prop} {d : Dk} (hD : DiskAt w D F d) (hn : d.P.length ≤ 1000000) (hdd : d.dd = false) (fr cn : Nat) (st e : Int) (h2 : 2 ≤ cn) (hfc : fr + cn ≤ d.K.length) (hs0 : 0 ≤ st) (hs1 : st ≤ 1152921504606846976) (he0 : 0 ≤ e)
    (he1 : e < 2147483647) (hy0 : 0 ≤ youngS d fr e cn) (hy1 : youngS d fr e cn < 2147483647) (hok : (openS d fr cn st e).Ok) :
    Calls Try.prog 8 #[.pointer (some ⟨D, 0, none⟩), .int .i64 (fr : Int), .int .i64 (cn : Int), .int .i64 st, .int .i64 e] w
      (fun en w' => ∃ R G, en = .returned (.tuple #[.pointer (some ⟨R, 0, none⟩), .int .i64 0]) ∧ RingAt w' R D G (openS d fr cn st e) ∧ Upd Non w w' ∧ ∀ k, G k → w.heap.size ≤ k) := by
  have hSz := Lib.hid (lSize hD)
  have hDe := Lib.hid (fun w' (hu : Upd Non w w') => lDead (hD.non hu))
  have hk2 := hD.ok.n2
  have hDh := Lib.hid hD
  obtain ⟨n, hnn⟩ : ∃ n, d.K.length = n := ⟨_, rfl⟩
  rw [hnn] at hSz hfc hk2
  rw [hdd] at hDe
  have c0 : ((n : Int) == 0) = false := by simp; omega
  have c1 : ((fr : Int) < 0) = False := eq_false (by omega)
  have c2 : ((cn : Int) < 2) = False := eq_false (by omega)
  have c3 : ((n : Int) < (cn : Int)) = False := eq_false (by omega)
  have c4 : ((n : Int) - (cn : Int) < (fr : Int)) = False := eq_false (by omega)
  have c5 : (st < 0) = False := eq_false (by omega)
  have c6 : (1152921504606846976 < st) = False := eq_false (by omega)
  have c7 : (e < 0) = False := eq_false (by omega)
  have c8 : ((2147483647 : Int) ≤ e) = False := eq_false (by omega)
  have hw1 : IntKind.i64.wrap ((n : Int) - (cn : Int)) = (n : Int) - (cn : Int) := IntWalk.i64_in _ ⟨by omega, by omega⟩
  have hrun : Hid (∀ y, runS d ⟨fr, cn, st, st, y, []⟩ e 0 cn = runS d ⟨fr, cn, st, st, 0, []⟩ e 0 cn) := Lib.hid (fun y => runS_same d ⟨fr, cn, st, st, y, []⟩ ⟨fr, cn, st, st, 0, []⟩ rfl rfl rfl _ _ _)
  have hos : Hid (openS d fr cn st e = if runS d ⟨fr, cn, st, st, 0, []⟩ e 0 cn = [] then ⟨fr, cn, st, st, youngS d fr e cn + 1, []⟩ else ⟨fr, cn, st, (joinS (runS d ⟨fr, cn, st, st, 0, []⟩ e 0 cn)).next, youngS d fr e cn + 1, (joinS (runS d ⟨fr, cn, st, st, 0, []⟩ e 0 cn)).out⟩) := Lib.hid rfl
  have hXl : Hid ((runS d ⟨fr, cn, st, st, 0, []⟩ e 0 cn).length ≤ cn) := Lib.hid (runS_length _ _ _ _ _)
  obtain ⟨Y, hY⟩ : ∃ Y, youngS d fr e cn = Y := ⟨_, rfl⟩
  generalize runS d ⟨fr, cn, st, st, 0, []⟩ e 0 cn = X at *
  generalize openS d fr cn st e = o at *
  have hYh := Lib.hid hY
  rw [hY] at hos hy0 hy1
  generalize Y = yv at *
  clear hnn hD hY
  obtain ⟨PR, hPR⟩ : ∃ PR : Ending → World → Prop, PR = (fun en w' => ∃ R G, en = .returned (.tuple #[.pointer (some ⟨R, 0, none⟩), .int .i64 0]) ∧ RingAt w' R D G o ∧ Upd Non w w' ∧ ∀ k, G k → w.heap.size ≤ k) := ⟨_, rfl⟩
  rw [← hPR]
  replace hPR := Lib.hid hPR
  refine (callsIn_wide (n := 5)).1 (callsIn_of_wp_marks Try.func8 rfl trivial (wpIn_wide.2 ?_) rfl)
  simp only [Try.ntmps8, List.size_toArray, List.length_cons, List.length_nil, Nat.reduceAdd, Nat.reduceSub, Array.replicate_succ, Array.replicate_zero, List.push_toArray, List.append_toArray, List.nil_append, List.cons_append]
  go_wp2_with fail
  refine hSz.out.mono ?_
  rintro en w1 ⟨rfl, hu1⟩
  clear hSz
  go_wp2_with fail
  refine (hDe.out _ hu1).mono ?_
  rintro en w2 ⟨rfl, hu2⟩
  have hU2 := hu1.trans hu2 fun _ _ h => h
  clear hDe hu1 hu2 c0 c1 c2 c3 c4 c5 c6 c7 c8 hw1
  obtain ⟨R, hRr⟩ : ∃ R, w2.heap.size = R := ⟨_, rfl⟩
  have hX2 := heap_alloc_new w2 (.cells (rgC D ⟨fr, cn, st, st, 0, []⟩ (.slice none 0 0)) 43)
  have hub := Upd.alloc Non w2 (.cells (rgC D ⟨fr, cn, st, st, 0, []⟩ (.slice none 0 0)) 43)
  have hR2 : RingAt (w2.alloc (.cells (rgC D ⟨fr, cn, st, st, 0, []⟩ (.slice none 0 0)) 43)) w2.heap.size D (fun k => k = w2.heap.size) ⟨fr, cn, st, st, 0, []⟩ :=
    ⟨⟨by show fr ≤ 16384; omega, h2, by show cn ≤ 16384; omega, hs0, Int.le_refl _, by show st ≤ 1152921504607000000; omega, by simp, by simp, by simp⟩, _, hX2, World.ownsRow_nil _ _ _ _, by simp [At, Value.ownBlock], fun k => by simp [At, Value.ownBlock]⟩
  have cY := lYoungest hR2 (hDh.out.non (hU2.trans hub fun _ _ h => h)) hn e
  simp only [hYh.out] at cY
  replace cY := Lib.hid cY
  have hD2 := Lib.hid (hDh.out.non (hU2.trans hub fun _ _ h => h))
  have c9 : ((2147483647 : Int) ≤ yv) = False := eq_false (by omega)
  have hw9 : IntKind.i64.wrap (yv + 1) = yv + 1 := IntWalk.i64_in _ ⟨by omega, by omega⟩
  unfold rgC at cY hX2 hub hD2
  dsimp only at cY hX2 hub hD2
  rw [hRr] at hX2 cY
  have hwR0 : Hid (w.heap.size ≤ R) := Lib.hid (by rw [← hRr]; exact hU2.size)
  clear hR2
  have hUb := Lib.hid (hU2.trans hub fun _ _ h => h)
  go_wp2_with fail
  refine cY.out.mono ?_
  rintro en w3 ⟨rfl, hu3⟩
  clear cY
  have hX3 := hu3.heap hX2 fun h => h
  have hD3 := Lib.hid (hD2.out.non hu3)
  have hU3 := Lib.hid (hUb.out.trans hu3 fun _ _ h => h)
  clear hD2 hUb hub hX2 hu3 hU2
  obtain ⟨x, z⟩ := cells_of hX3
  have x5 : w3.cell? ⟨R, 5, none⟩ = some (.int .i64 0) := x 5
  have z5 : w3.frozen? ⟨R, 5, none⟩ = false := z 5
  have hX4 := set_blk (j := 5) hX3 (.int .i64 (yv + 1))
  have hub4 := Upd.setCell (S := fun k => k = R) w3 (a := ⟨R, 5, none⟩) rfl (.int .i64 (yv + 1))
  have hRlt := heap_lt hX3
  simp only [List.setIfInBounds_toArray, List.set_cons_zero, List.set_cons_succ] at hX4
  clear x z hX3
  obtain ⟨w4, hw4⟩ : ∃ w4, w3.setCell ⟨R, 5, none⟩ (.int .i64 (yv + 1)) = w4 := ⟨_, rfl⟩
  rw [hw4] at hX4 hub4
  have cR := Lib.hid (fun w => lRun R e w)
  go_wp2_with fail
  refine (cR.out _).mono ?_
  obtain ⟨z, hz⟩ : ∃ z, w4.heap.size = z := ⟨_, rfl⟩
  rintro en w5 ⟨rfl, hw5⟩
  have hz34 : w3.heap.size = z := by rw [← hz, ← hw4]; simp [World.setCell]
  simp only [World.size_alloc, hz] at hw5 ⊢
  have hua := Upd.alloc Non w4 (.cells #[.slice none 0 0] 52)
  have hub5 := Upd.alloc Non (w4.alloc (.cells #[.slice none 0 0] 52)) (.cells #[.pointer (some ⟨R, 0, none⟩)] 29)
  have huc := Upd.alloc Non ((w4.alloc (.cells #[.slice none 0 0] 52)).alloc (.cells #[.pointer (some ⟨R, 0, none⟩)] 29)) (.cells #[.int .i64 e] 3)
  have hL5 : w5.heap[z]? = some (.cells #[.slice none 0 0] 52 (0, 0)) := by
    have h := heap_alloc_new w4 (.cells #[.slice none 0 0] 52)
    rw [hz] at h; rw [hw5]; exact huc.heap (hub5.heap h fun h => h) fun h => h
  have hbr5 : w5.heap[z + 1]? = some (.cells #[.pointer (some ⟨R, 0, none⟩)] 29 (0, 0)) := by
    have h := heap_alloc_new (w4.alloc (.cells #[.slice none 0 0] 52)) (.cells #[.pointer (some ⟨R, 0, none⟩)] 29)
    simp only [World.size_alloc, hz] at h; rw [hw5]; exact huc.heap h fun h => h
  have hb5 : w5.heap[z + 2]? = some (.cells #[.int .i64 e] 3 (0, 0)) := by
    have h := heap_alloc_new ((w4.alloc (.cells #[.slice none 0 0] 52)).alloc (.cells #[.pointer (some ⟨R, 0, none⟩)] 29)) (.cells #[.int .i64 e] 3)
    simp only [World.size_alloc, hz] at h; rw [hw5]; exact h
  have hu45 : Upd Non w4 w5 := by rw [hw5]; exact (hua.trans hub5 fun _ _ h => h).trans huc fun _ _ h => h
  have hz5 : w5.heap.size = z + 3 := by rw [hw5]; simp [hz]
  have hu35 : Upd (fun k => k = R) w3 w5 := hub4.trans hu45 fun _ _ h => h.elim
  have hX5 := hu45.heap hX4 fun h => h
  have hwR : w.heap.size ≤ R := by
    have h1 := hU3.out.size
    have h2 := hD3.out.lt
    exact hwR0.out
  have hD5 : DiskAt w5 D F d := hD3.out.upd hu35 (fun k hk e => by have := hDh.out.lt k hk; omega)
  have hR5 : RingAt w5 R D (fun k => k = R) ⟨fr, cn, st, st, yv + 1, []⟩ :=
    ⟨⟨by show fr ≤ 16384; omega, h2, by show cn ≤ 16384; omega, hs0, Int.le_refl _, by show st ≤ 1152921504607000000; omega, by show 0 ≤ yv + 1; omega, by show yv + 1 ≤ 2147483647; omega, by simp⟩, _, hX5, World.ownsRow_nil _ _ _ _, by simp [At, Value.ownBlock], fun k => by simp [At, Value.ownBlock]⟩
  have hFlt : ∀ k, F k → k < w.heap.size := hDh.out.lt
  have hKz : ∀ k, RunK F (fun k => k = R) (z + 1) k → k < w5.heap.size ∧ k ≠ z + 2 ∧ k ≠ z := by
    have hw4z := hU3.out.size
    rintro k (hk | rfl | rfl)
    · have := hFlt k hk; omega
    · omega
    · omega
  have hit := iter_run hR5 hD5 hn hbr5 hb5 (fun h => (hKz _ h).2.1 rfl)
  simp only [hrun.out] at hit
  have hu3w : Upd (fun k => k = R) w w5 := hU3.out.non.trans hu35 fun _ _ h => h
  clear hw5 hua hub5 huc hw4 hub4 hX4 cR x5 z5 hu45 hu35 hD3
  replace hX5 := Lib.hid hX5
  replace hR5 := Lib.hid hR5
  replace hD5 := Lib.hid hD5
  have hXn := hXl.out
  have hinf := Lib.hid (@info_slot)
  go_wp2_with fail
  refine wp_rangeB (gf := 41) (lb := #[.pointer (some ⟨z + 1, 0, none⟩), .pointer (some ⟨z + 2, 0, none⟩)]) rfl (enters_of Try.func41 (by kernel_rfl) rfl) hit (fun k hk => (hKz k hk).1) (by omega) (fun _ => rfl)
    (OpI X z (z + 2) w5) (fun i W W' h hu => h.next (by omega) (by omega) hu) (fun i W l o h1 h2 h => h.put (by omega) o h1 h2) ⟨Upd.refl _ _, Nat.zero_le _, _, hL5, World.ownsRow_nil _ _ _ _⟩
    (AxS X (w5.heap.size + 2)) (fun i a' W l o h1 h2 ⟨nb, x, hnb, hx, hc, ha⟩ => ⟨nb, x, hnb, hx, (World.putObj_heap_other (by omega)).trans hc, ha⟩) ?assign ?body ?done
  case assign =>
    intro y i hi W Q' hW hI hQ
    obtain ⟨⟨xe, xq, xf, xl, xd⟩, hx⟩ : ∃ x, X[i] = x := ⟨_, rfl⟩
    rw [hx]
    have hQ2 := hQ { tmps := _, defers := [] } (W.alloc (.cells #[.int .i64 xe, .int .i64 xq, .bool xf, .bool xl, .string ⟨xd.toArray⟩] 56)) (Below.refl _ _ |>.alloc (Nat.le_refl _) _) (hI.next (by omega) (by omega) (Upd.alloc _ _ _)) ⟨W.heap.size, ⟨xe, xq, xf, xl, xd⟩, by omega, by rw [List.getElem?_eq_getElem hi, hx], heap_alloc_new _ _, rfl⟩
    unfold encS
    dsimp only
    gi_wp2
    exact hQ2
  case body =>
    rintro y i hi a' W hW hI ⟨nb, ⟨xe, xq, xf, xl, xd⟩, hnb, hx, hc, rfl⟩
    simp only [List.setIfInBounds_toArray, List.set_cons_zero, List.set_cons_succ]
    obtain ⟨v, hv, ho⟩ := hI.row
    have l0 : W.cell? ⟨z, 0, none⟩ = some v := (cells_of hv).1 0
    have f0 : W.frozen? ⟨z, 0, none⟩ = false := (cells_of hv).2 0
    have s0 : W.cell? ⟨nb, 0, none⟩ = some (.int .i64 xe) := (cells_of hc).1 0
    have s1 : W.cell? ⟨nb, 1, none⟩ = some (.int .i64 xq) := (cells_of hc).1 1
    have s2 : W.cell? ⟨nb, 2, none⟩ = some (.bool xf) := (cells_of hc).1 2
    have s3 : W.cell? ⟨nb, 3, none⟩ = some (.bool xl) := (cells_of hc).1 3
    have s4 : W.cell? ⟨nb, 4, none⟩ = some (.string ⟨xd.toArray⟩) := (cells_of hc).1 4
    have q1 : i + 1 ≤ maxLen := by unfold maxLen; omega
    have q2 : (i + 1) * 40 ≤ 140737488355328 := by omega
    have q3 : w5.heap.size + 2 ≤ W.heap.size := by omega
    gi_wp2_with (gi_at_builtin; refine wpListIn_appB rfl _ _ 52 rfl (w5.heap.size + 2) 56 (.agg #[.int .i64 0, .int .i64 0, .bool false, .bool false, .string ⟨#[]⟩]) 5 40 Try.underlying52 hinf.out rfl _ _ _ rfl ho [.int .i64 xe, .int .i64 xq, .bool xf, .bool xl, .string ⟨xd.toArray⟩] W.heap.size rfl rfl rfl (by intro u hu; simp at hu; rcases hu with rfl | rfl | rfl | rfl | rfl <;> rfl) q1 q2 q3 ?_)
    intro v7 w7 ho7 hu7 hf7
    have hvB : ∀ j, At v j → w5.heap.size + 2 ≤ j := fun j hj => own_ge ho hj
    have hv7 := hu7.heap hv (fun h => by have := hvB _ h; omega)
    have l7 : w7.cell? ⟨z, 0, none⟩ = some v := (cells_of hv7).1 0
    have g7 : w7.frozen? ⟨z, 0, none⟩ = false := (cells_of hv7).2 0
    have hz7 := hu7.size
    rw [show z + 3 + 2 = w5.heap.size + 2 by omega] at ho7
    have ho8 : w7.ownsRow (w5.heap.size + 2) 56 5 v7 (i + 1) (sc (X.take (i + 1))) := by
      rw [List.take_add_one, hx, Option.toList_some, sc_append]; exact ho7
    obtain ⟨n7, hn7⟩ : ∃ n7, i + 1 = n7 := ⟨_, rfl⟩
    rw [hn7] at ho8
    obtain ⟨_, a7, c7, rfl, -⟩ := has_of_owns ho8
    have hall : KeepsOthers W (w7.setCell ⟨z, 0, none⟩ (.slice a7 n7 c7)) ∧ Stay (RunK F (fun k => k = R) (z + 1)) W (w7.setCell ⟨z, 0, none⟩ (.slice a7 n7 c7)) ∧ (w7.setCell ⟨z, 0, none⟩ (.slice a7 n7 c7)).heap[z + 2]? = W.heap[z + 2]? ∧ OpI X z (z + 2) w5 (i + 1) (w7.setCell ⟨z, 0, none⟩ (.slice a7 n7 c7)) := by
      refine ⟨(hu7.othersB (own_cellsB ho)).trans (KeepsOthers.setCell _ _ _), fun k hk => ?_, ?_, ?_, by omega, _, set_blk (j := 0) hv7 (.slice a7 n7 c7), ?_⟩
      · have hk' := hKz k hk
        exact (Below.heap_setCell _ _ _ _ hk'.2.2).trans (hu7.block k (by omega) fun h => by have := hvB _ h; omega)
      · exact (Below.heap_setCell _ _ _ _ (by show z + 2 ≠ z; omega)).trans (hu7.block _ (by omega) fun h => by have := hvB _ h; omega)
      · exact (hI.upd.trans hu7 fun j hj h => by have := hvB _ h; omega).then_setCell (p := ⟨z, 0, none⟩) (fun _ => .inl rfl) _
      · exact (Upd.setCell (S := fun k => k = z) w7 (a := ⟨z, 0, none⟩) rfl (.slice a7 n7 c7)).owns (by rw [hn7]; exact ho8) fun k hk e => by have := own_ge ho8 hk; omega
    clear hu7 hf7 ho7 hv7 ho hv ho8 hvB l0 f0 s0 s1 s2 s3 s4 hc
    gi_wp2
    exact hall
  case done =>
    intro Dd W hDd hI hd
    obtain ⟨v, hv, ho⟩ := hI.row
    rw [List.take_length] at ho
    have hXW := hI.upd.heap hX5.out (fun h => by omega)
    have hUW : Upd Non w W := (hu3w.trans hI.upd fun j hj h => by omega).mono fun j hj e => by omega
    have hzW := hI.upd.size
    have hDW := heap_lt hd
    obtain ⟨_, a, c, rfl, -⟩ := has_of_owns ho
    have l0 : W.cell? ⟨z, 0, none⟩ = some (.slice a X.length c) := (cells_of hv).1 0
    clear hit hKz hFlt
    by_cases hXe : X = []
    · subst hXe
      rw [if_pos rfl] at hos
      have hRF : RingAt (W.putObj Dd (.deferred none)) R D (fun k => k = R) o := by
        rw [hos.out] at hok ⊢
        exact ⟨hok, .slice none 0 0, (World.putObj_heap_other (by omega)).trans hXW, World.ownsRow_nil _ _ _ _, by simp [At, Value.ownBlock], fun k => by simp [At, Value.ownBlock]⟩
      have hUF := hUW.put (l := Dd) (by omega) (.deferred none)
      clear hXW hv ho hI hUW hos
      replace hRF := Lib.hid hRF
      go_wp2_with fail
      refine ⟨by simp, .inl ⟨_, _, rfl, run_takeDeferred hd, ?_⟩⟩
      refine ⟨.tuple #[.pointer (some ⟨R, 0, none⟩), .int .i64 0], by simp [results, Try.results8, go_sem]; try rfl, ?_⟩
      rw [hPR.out]
      exact ⟨R, _, rfl, hRF.out, hUF, fun k hk => by (have : k = R := hk); omega⟩
    · have hXp : 0 < X.length := List.length_pos_iff.2 hXe
      have hXpI : (0 : Int) < (X.length : Int) := by omega
      rw [if_neg hXe] at hos
      have cJ := lJoin _ X W (has_of_owns ho) (by omega)
      unfold JoinTo at cJ
      obtain ⟨r6x, r6z⟩ := cells_of hXW
      generalize joinS X = js at *
      obtain ⟨jo, jn, jd, jp⟩ := js
      simp only at hos cJ
      replace cJ := Lib.hid cJ
      have hlR : R < W.heap.size := heap_lt hXW
      have x4 : W.cell? ⟨R, 4, none⟩ = some (.int .i64 st) := r6x 4
      have x6 : W.cell? ⟨R, 6, none⟩ = some (.slice none 0 0) := r6x 6
      clear r6x r6z
      replace hos := Lib.hid hos
      go_wp2_with fail
      refine cJ.out.mono ?_
      rintro en w8 ⟨vj, rfl, hoj, huj⟩
      have hX8 := huj.heap hXW fun h => h
      have hd8 := huj.heap hd fun h => h
      obtain ⟨r8x, r8z⟩ := cells_of hX8
      have x4 : w8.cell? ⟨R, 4, none⟩ = some (.int .i64 st) := r8x 4
      have x6 : w8.cell? ⟨R, 6, none⟩ = some (.slice none 0 0) := r8x 6
      have z4 : w8.frozen? ⟨R, 4, none⟩ = false := r8z 4
      have z6 : w8.frozen? ⟨R, 6, none⟩ = false := r8z 6
      obtain ⟨jl, hjl⟩ : ∃ jl, jo.length = jl := ⟨_, rfl⟩
      have hoj' := hoj
      unfold OwnJ at hoj
      rw [hjl] at hoj
      obtain ⟨_, aj, cj, rfl, -⟩ := has_of_owns hoj
      have hX9 := set_blk (j := 4) (set_blk (j := 6) hX8 (.slice aj jl cj)) (.int .i64 jn)
      simp only [List.setIfInBounds_toArray, List.set_cons_zero, List.set_cons_succ] at hX9
      have hu9 : Upd (fun k => k = R) w8 ((w8.setCell ⟨R, 6, none⟩ (.slice aj jl cj)).setCell ⟨R, 4, none⟩ (.int .i64 jn)) :=
        (Upd.setCell (S := fun k => k = R) w8 (a := ⟨R, 6, none⟩) rfl _).trans (Upd.setCell (S := fun k => k = R) _ (a := ⟨R, 4, none⟩) rfl _) fun _ _ h => h
      have hd9 := hu9.heap hd8 (by omega)
      have hRF : RingAt (((w8.setCell ⟨R, 6, none⟩ (.slice aj jl cj)).setCell ⟨R, 4, none⟩ (.int .i64 jn)).putObj Dd (.deferred none)) R D (fun k => k = R ∨ At (.slice aj jl cj) k) o := by
        rw [hos.out] at hok ⊢
        refine ⟨hok, .slice aj jl cj, (World.putObj_heap_other (by omega)).trans hX9, ?_, fun h => ?_, fun k => Iff.rfl⟩
        · exact own_put (owns_mono (hu9.owns hoj' fun k hk e => by have := own_ge hoj' hk; omega) fun _ _ => Nat.zero_le _) hd9 rfl _
        · have := own_ge hoj' h; omega
      have hUF : Upd Non w (((w8.setCell ⟨R, 6, none⟩ (.slice aj jl cj)).setCell ⟨R, 4, none⟩ (.int .i64 jn)).putObj Dd (.deferred none)) := ((hUW.trans huj fun _ _ h => h).trans hu9 fun j hj e => by omega).put (by omega) _
      have hGl : ∀ k, (k = R ∨ At (.slice aj jl cj) k) → w.heap.size ≤ k := by
        rintro k (rfl | hk)
        · exact hwR
        · have := own_ge hoj' hk; omega
      replace hRF := Lib.hid hRF
      replace hGl := Lib.hid hGl
      clear hoj hoj' hX9 hX8 hos huj hXW hv ho hI cJ r8x r8z hu9
      go_wp2_with fail
      refine ⟨by simp, .inl ⟨_, _, rfl, run_takeDeferred hd9, ?_⟩⟩
      refine ⟨.tuple #[.pointer (some ⟨R, 0, none⟩), .int .i64 0], by simp [results, Try.results8, go_sem]; try rfl, ?_⟩
      rw [hPR.out]
      exact ⟨R, _, rfl, hRF.out, hUF, hGl.out⟩
end Go.Proofs.Ytmnoldikimcafaa
