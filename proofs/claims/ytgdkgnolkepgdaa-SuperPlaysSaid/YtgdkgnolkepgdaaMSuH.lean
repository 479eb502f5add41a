/- super.look; what is found and saved, in plain Lean. -/
import Derived.Test.YtgdkgnolkepgdaaMSuG
import Derived.Test.YtgdkgnolkepgdaaMBlM
namespace Go.Proofs.Ytgdkgnolkepgdaa
set_option maxRecDepth 100000
open Go.RowKit Go.Amb Go.Shelf
set_option linter.unusedVariables false
set_option linter.unusedSimpArgs false
attribute [local go_sem ↓] Go.wp_at_zero Go.wp_at_succ

def findR (d : Dk) : Sp × Int × Int :=
  if d.within 0 ≠ 0 then (Sp.none, 0, d.within 0) else if d.within 1 ≠ 0 then (Sp.none, 0, d.within 1) else
  if (readR (d.has 0)).2 ≠ 0 ∧ (readR (d.has 1)).2 ≠ 0 then (Sp.none, 0, 4) else
  if (readR (d.has 0)).2 ≠ 0 ∨ ((readR (d.has 1)).2 = 0 ∧ (readR (d.has 0)).1.gen < (readR (d.has 1)).1.gen) then ((readR (d.has 1)).1, 1, 0) else ((readR (d.has 0)).1, 0, 0)
/-- The number that the next super has. -/
def nextG (d : Dk) : Int := if (findR d).2.2 = 0 then (findR d).1.gen + 1 else 0
def Sp.at_ (s : Sp) (g : Int) : Sp := { s with gen := g }
def saveR (d : Dk) (s : Sp) : Dk × Sp × Int :=
  if (findR d).2.2 ≠ 0 ∧ (findR d).2.2 ≠ 4 then (d, Sp.none, (findR d).2.2) else
  if 1152921504606846976 < nextG d then (d, Sp.none, 18) else
  if ¬ SpOk (s.at_ (nextG d)) then (d, Sp.none, 2) else
  if (d.write (nextG d % 2) (putS (s.at_ (nextG d)))).2 ≠ 0 then ((d.write (nextG d % 2) (putS (s.at_ (nextG d)))).1, Sp.none, (d.write (nextG d % 2) (putS (s.at_ (nextG d)))).2) else
  if (d.write (nextG d % 2) (putS (s.at_ (nextG d)))).1.flush.2 ≠ 0 then ((d.write (nextG d % 2) (putS (s.at_ (nextG d)))).1.flush.1, Sp.none, (d.write (nextG d % 2) (putS (s.at_ (nextG d)))).1.flush.2) else
  ((d.write (nextG d % 2) (putS (s.at_ (nextG d)))).1.flush.1, s.at_ (nextG d), 0)
def fdV (s : Sp) (i : Int) (b : Bool) : Value := .agg #[.int .i64 s.gen, .int .i64 s.root, .int .i64 s.start, .int .i64 s.epoch, .int .i64 s.last, .int .i64 s.mark, .int .i64 i, .bool b]
theorem size_fd : Hid ((Try.prog.info? 92).map (·.size) = some 8) := Lib.hid (by kernel_rfl)
theorem cells8 {w : World} {b : Nat} {c0 c1 c2 c3 c4 c5 c6 c7 : Value} {t : TypeId} (h : w.heap[b]? = some (.cells #[c0, c1, c2, c3, c4, c5, c6, c7] t (0, 0))) : w.cell? ⟨b, 0, none⟩ = some c0 ∧ w.cell? ⟨b, 1, none⟩ = some c1 ∧ w.cell? ⟨b, 2, none⟩ = some c2 ∧ w.cell? ⟨b, 3, none⟩ = some c3 ∧ w.cell? ⟨b, 4, none⟩ = some c4 ∧ w.cell? ⟨b, 5, none⟩ = some c5 ∧ w.cell? ⟨b, 6, none⟩ = some c6 ∧ w.cell? ⟨b, 7, none⟩ = some c7 :=
  ⟨(cells_of h).1 0, (cells_of h).1 1, (cells_of h).1 2, (cells_of h).1 3, (cells_of h).1 4, (cells_of h).1 5, (cells_of h).1 6, (cells_of h).1 7⟩
theorem read_len {d : Dk} (h : d.Ok) (i : Int) : (d.reads i).length ≤ 128 := by
  unfold Dk.reads
  split
  · rename_i hw
    have := Dk.within_0 hw
    rw [h.has (by omega)]
    exact Nat.le_refl _
  · simp
/-- One sector's super: it, the sector, is it one? -/
def lookR (d : Dk) (i : Int) : Value := if d.within i = 0 then fdV (readR (d.reads i)).1 i (decide ((readR (d.reads i)).2 = 0)) else fdV Sp.none 0 false
set_option maxHeartbeats 2000000 in
theorem yLook {w : World} {D : Nat} {F : Nat → Prop} {d : Dk} (h : DiskAt w D F d) (hn : d.P.length ≤ 1000000) (i : Int) :
    Calls Try.prog 48 #[.pointer (some ⟨D, 0, none⟩), .int .i64 i] w (Ret (.tuple #[lookR d i, .int .i64 (d.within i)]) w) := by
  have hrd := Lib.hid (fun w' (hu : Upd Non w w') => lReadAll (h.non hu) hn i)
  have hln := read_len h.ok i
  unfold lookR
  by_cases hw : d.within i = 0
  · rw [if_pos hw]
    rw [hw] at hrd ⊢
    have hre := Lib.hid (fun v w' (hB : Bytes w' v (d.reads i)) => yRead v (d.reads i) w' hB (by omega))
    have hde : ∀ x : Int, (x == 0) = decide (x = 0) := fun x => by by_cases h : x = 0 <;> simp [h]
    generalize readR (d.reads i) = rr at *
    obtain ⟨⟨g, r, st, ep, la, ma⟩, re⟩ := rr
    unfold fdV spV at *
    simp only at *
    rw [← hde]
    clear hde
    clear hw hln
    go_enter Try.func48, Try.ntmps48
    go_wp2_with fail
    refine (hrd.out _ ((Upd.refl Non w).then_alloc _)).mono ?_
    rintro en w1 ⟨v, rfl, hA, hu, -⟩
    have hX : Upd Non (w.alloc (.cells #[.int .i64 0, .int .i64 0, .int .i64 0, .int .i64 0, .int .i64 0, .int .i64 0, .int .i64 0, .bool false] 92)) w1 := hu
    clear hu
    obtain ⟨va, vn, vc, rfl⟩ : ∃ a n c, v = .slice a n c := by obtain ⟨a, c, e⟩ := bytes_form hA; exact ⟨_, _, _, e⟩
    go_wp2_with fail
    refine (hre.out _ _ hA).mono ?_
    rintro en w2 ⟨rfl, hu⟩
    replace hX := hX.trans hu fun _ _ h => h
    have hbA := hX.heap (heap_alloc_new w _) fun h => h
    have hU := (hX.own1 (fun _ h => h.elim)).2.2.2.then_alloc (.cells #[.int .i64 g, .int .i64 r, .int .i64 st, .int .i64 ep, .int .i64 la, .int .i64 ma] 23)
    replace hbA := (Upd.alloc Non w2 (.cells #[.int .i64 g, .int .i64 r, .int .i64 st, .int .i64 ep, .int .i64 la, .int .i64 ma] 23)).heap hbA fun h => h
    clear hu hA hX
    go_wp2_with ((with_reducible (show wpList _ _ _ (⟨_, Op.store _ _ _, _, _, _, _⟩ :: _) _ _)); refine storeB_list rfl 92 _ _ rfl w.heap.size #[.int .i64 g, .int .i64 r, .int .i64 st, .int .i64 ep, .int .i64 la, .int .i64 ma, .int .i64 i, .bool (re == 0)] _ _ rfl rfl hbA rfl size_fd.out (by simp [Value.oneCell']) ?_)
    intro w18 hb18 hu18
    obtain ⟨x0, x1, x2, x3, x4, x5, x6, x7⟩ := cells8 hb18
    have hU18 := hU.trans hu18 (fun k hk e => by (have : k = w.heap.size := e); omega)
    go_wp2_with fail
    refine bodyPost_ret (v := .tuple #[.agg #[.int .i64 g, .int .i64 r, .int .i64 st, .int .i64 ep, .int .i64 la, .int .i64 ma, .int .i64 i, .bool (re == 0)], .int .i64 0]) (by simp [results, Try.results48, go_sem, x0, x1, x2, x3, x4, x5, x6, x7]; try rfl) rfl ⟨rfl, hU18⟩
  · rw [if_neg hw]
    have hw2 : (d.within i != 0) = true := by simp [hw]
    unfold fdV Sp.none
    simp only
    generalize d.within i = ew at *
    go_enter Try.func48, Try.ntmps48
    go_wp2_with fail
    refine (hrd.out _ ((Upd.refl Non w).then_alloc _)).mono ?_
    rintro en w1 ⟨v, rfl, hA, hu, -⟩
    have hX : Upd Non (w.alloc (.cells #[.int .i64 0, .int .i64 0, .int .i64 0, .int .i64 0, .int .i64 0, .int .i64 0, .int .i64 0, .bool false] 92)) w1 := hu
    clear hu
    have hbA := hX.heap (heap_alloc_new w _) fun h => h
    have hU := (hX.own1 (fun _ h => h.elim)).2.2.2
    clear hX
    obtain ⟨va, vn, vc, rfl⟩ : ∃ a n c, v = .slice a n c := by obtain ⟨a, c, e⟩ := bytes_form hA; exact ⟨_, _, _, e⟩
    clear hA
    go_wp2_with ((with_reducible (show wpList _ _ _ (⟨_, Op.store _ _ _, _, _, _, _⟩ :: _) _ _)); refine storeB_list rfl 92 _ _ rfl w.heap.size #[.int .i64 0, .int .i64 0, .int .i64 0, .int .i64 0, .int .i64 0, .int .i64 0, .int .i64 0, .bool false] _ _ rfl rfl hbA rfl size_fd.out (by simp [Value.oneCell']) ?_)
    intro w18 hb18 hu18
    obtain ⟨x0, x1, x2, x3, x4, x5, x6, x7⟩ := cells8 hb18
    have hU18 := hU.trans hu18 (fun k hk e => by (have : k = w.heap.size := e); omega)
    go_wp2_with fail
    refine bodyPost_ret (v := .tuple #[.agg #[.int .i64 0, .int .i64 0, .int .i64 0, .int .i64 0, .int .i64 0, .int .i64 0, .int .i64 0, .bool false], .int .i64 ew]) (by simp [results, Try.results48, go_sem, x0, x1, x2, x3, x4, x5, x6, x7]; try rfl) rfl ⟨rfl, hU18⟩
end Go.Proofs.Ytgdkgnolkepgdaa
