/- The walk of FieldReads. -/
import Derived.Test.YtgemlapmjbgdkaaFL
import Derived.Test.YtgemlapmjbgdkaaLibB
import Derived.Test.YtgemlapmjbgdkaaLibC
namespace Go.Proofs.Ytgemlapmjbgdkaa
open Go.RowKit Go.Amb
set_option linter.unusedVariables false
attribute [local go_sem ↓] Go.wp_at_zero Go.wp_at_succ

/-- A list of reads as cells. -/
def askCells (l : List (Int × Int)) : List Value := l.flatMap fun p => [.int .i64 p.1, .int .i64 p.2]
theorem askCells_get (l : List (Int × Int)) : ∀ (k : Nat) (h : k < l.length), (askCells l)[2 * k]? = some (.int .i64 l[k].1) ∧ (askCells l)[2 * k + 1]? = some (.int .i64 l[k].2) := by
  induction l with
  | nil => intro k h; cases h
  | cons p l ih =>
    intro k h
    cases k with
    | zero => exact ⟨rfl, rfl⟩
    | succ k =>
      have := ih k (by simpa using h)
      exact this

set_option maxHeartbeats 400000 in
theorem reads_long (l : List UInt8) (v : Value) (a : Option Addr) (n c : Nat) (w : World) (hl : l.length ≤ 140737488355328) (hB : Bytes w v l) (h : 1000 < n) :
    Calls Try.prog 5 #[v, .slice a n c] w (Ret (.bool true) w) := by
  have hi := Lib.hid (@info_u8)
  have h' : (1000 : Int) < n := by omega
  replace hB := Lib.hid hB
  go_enter Try.func5, Try.ntmps5
  go_wp2_with (at_builtin; go_must (refine wpList_app rfl _ _ 22 22 rfl w.heap.size 5 (.int .u8 0) 1 1 Try.underlying22 hi.out rfl _ 0 _ rfl (own_lit0 w w.heap.size 5 (Nat.le_refl _)) v l.length (bc l) rfl (Src.ofHas Try.underlying22 (hB.out.upd (Upd.alloc Non w _) fun _ _ h => h) (bc_one l)) (by unfold maxLen; omega) (by omega) (by simp) ?_))
  intro v1 w1 ho1 hu1 hf1
  replace hu1 : Upd (At (.slice (some ⟨w.heap.size, 0, none⟩) 0 0)) _ w1 := hu1
  have ho : Own w1 w.heap.size 5 v1 l := by have := own_app (l := []) ho1; simpa using this
  have hU := Lib.hid ((Upd.alloc Non w _).trans hu1 fun j hj h => by simp [At, Value.ownBlock] at h; omega)
  clear ho1 hu1 hf1
  replace ho := Lib.hid ho
  go_wp2_with fail
  refine (fNewReader _ _ _ ho.out.bytes hl).mono ?_
  rintro e w2 ⟨r, rfl, hr, hu, hlt⟩
  have hstr := run_str (P := Try.prog) _ 22 9 5 Try.underlying22 Try.underlying5 Try.underlying9 _ _ (hB.out.upd (hU.out.trans hu fun _ _ h => h) fun _ _ h => h)
  have hU2 := Lib.hid (hU.out.trans hu fun _ _ h => h)
  replace hr := Lib.hid hr
  clear hu
  go_wp2_with fail
  refine (lives01 _).mono ?_
  rintro e w3 ⟨rfl, hu⟩
  go_wp2_with fail
  go_ret
  exact ⟨rfl, (hU2.out.then_alloc _).trans hu fun _ _ h => h⟩

theorem rdNum_le (s : List UInt8) (a m : Nat) (e : Int) (h : a ≤ s.length) : (rdNum s a e m).1 ≤ s.length := by
  unfold rdNum
  split
  · split
    · assumption
    · exact h
  · exact h
theorem rdText_le (s : List UInt8) (a : Nat) (e most : Int) (h : a ≤ s.length) : (rdText s a e most).1 ≤ s.length := by
  unfold rdText
  split
  · split
    · split
      · split
        · have := numL_nonneg ((s.drop a).take 4)
          simp only
          omega
        · exact h
      · exact h
    · exact h
  · exact h

/-- Where a round's test stands: the document's reader in block M, the program's at r, alike. -/
def Alk (M r L : Nat) (s : List UInt8) (a : Nat) (e : Int) (w0 w : World) : Prop :=
  w.heap[M]? = some (.cells #[.string ⟨s.toArray⟩, .int .i64 a, .int .i64 e] 36 (0, 0)) ∧ RdAt w r L s a e ∧ Below w0.heap.size w0 w
theorem Alk.non {M r L : Nat} {s : List UInt8} {a : Nat} {e : Int} {w0 w w' : World} (h : Alk M r L s a e w0 w) (hu : Upd Non w w') : Alk M r L s a e w0 w' :=
  ⟨hu.heap h.1 fun h => h, h.2.1.non hu, h.2.2.trans (hu.belowN h.2.2.size)⟩
theorem Alk.held {M r L : Nat} {s : List UInt8} {a : Nat} {e : Int} {w0 w : World} (h : Alk M r L s a e w0 w) :
    w.cell? ⟨M, 0, none⟩ = some (.string ⟨s.toArray⟩) ∧ w.cell? ⟨M, 1, none⟩ = some (.int .i64 a) ∧ w.cell? ⟨M, 2, none⟩ = some (.int .i64 e) ∧ Alk M r L s a e w0 w :=
  ⟨(cells_of h.1).1 0, (cells_of h.1).1 1, (cells_of h.1).1 2, h⟩

theorem Alk.held1 {M r L : Nat} {s : List UInt8} {a : Nat} {e : Int} {w0 w : World} {p : Addr} {v : Value} (hc : w.cell? p = some v) (h : Alk M r L s a e w0 w) :
    w.cell? ⟨M, 0, none⟩ = some (.string ⟨s.toArray⟩) ∧ w.cell? ⟨M, 1, none⟩ = some (.int .i64 a) ∧ w.cell? ⟨M, 2, none⟩ = some (.int .i64 e) ∧ w.cell? p = some v ∧ Alk M r L s a e w0 w :=
  ⟨(cells_of h.1).1 0, (cells_of h.1).1 1, (cells_of h.1).1 2, hc, h⟩
theorem Alk.next1 {M r L : Nat} {s : List UInt8} {a : Nat} {e : Int} {w0 w w' : World} {p : Addr} {v : Value} (hu : Upd Non w w') (hc : w.cell? p = some v) (h : Alk M r L s a e w0 w) :
    w'.cell? ⟨M, 0, none⟩ = some (.string ⟨s.toArray⟩) ∧ w'.cell? ⟨M, 1, none⟩ = some (.int .i64 a) ∧ w'.cell? ⟨M, 2, none⟩ = some (.int .i64 e) ∧ w'.cell? p = some v ∧ Alk M r L s a e w0 w' :=
  Alk.held1 (hu.cell hc fun h => h) (h.non hu)
theorem Alk.next {M r L : Nat} {s : List UInt8} {a : Nat} {e : Int} {w0 w w' : World} (hu : Upd Non w w') (h : Alk M r L s a e w0 w) :
    w'.cell? ⟨M, 0, none⟩ = some (.string ⟨s.toArray⟩) ∧ w'.cell? ⟨M, 1, none⟩ = some (.int .i64 a) ∧ w'.cell? ⟨M, 2, none⟩ = some (.int .i64 e) ∧ Alk M r L s a e w0 w' :=
  Alk.held (h.non hu)
theorem Alk.of {M r L : Nat} {s : List UInt8} {a : Nat} {e : Int} {w0 w : World}
    (h : w.cell? ⟨M, 0, none⟩ = some (.string ⟨s.toArray⟩) ∧ w.cell? ⟨M, 1, none⟩ = some (.int .i64 a) ∧ w.cell? ⟨M, 2, none⟩ = some (.int .i64 e) ∧ Alk M r L s a e w0 w) : Alk M r L s a e w0 w := h.2.2.2
theorem Alk.rd {M r L : Nat} {s : List UInt8} {a : Nat} {e : Int} {w0 w : World}
    (h : w.cell? ⟨M, 0, none⟩ = some (.string ⟨s.toArray⟩) ∧ w.cell? ⟨M, 1, none⟩ = some (.int .i64 a) ∧ w.cell? ⟨M, 2, none⟩ = some (.int .i64 e) ∧ Alk M r L s a e w0 w) : RdAt w r L s a e := h.2.2.2.2.1

set_option maxRecDepth 100000 in
set_option maxHeartbeats 4000000 in
theorem reads_in (l : List UInt8) (v : Value) (asks : List (Int × Int)) (ao : Option Addr) (c : Nat) (w : World) (hl : l.length ≤ 140737488355328) (hB : Bytes w v l) (hn : asks.length ≤ 1000)
    (hA : Has w 2 (.slice ao asks.length c) asks.length (askCells asks)) :
    Calls Try.prog 5 #[v, .slice ao asks.length c] w (Ret (.bool true) w) := by
  have hi := Lib.hid (@info_u8)
  have hn' : ¬ (1000 : Int) < asks.length := by omega
  replace hB := Lib.hid hB
  replace hA := Lib.hid hA
  go_enter Try.func5, Try.ntmps5
  go_wp2_with (at_builtin; go_must (refine wpList_app rfl _ _ 22 22 rfl w.heap.size 5 (.int .u8 0) 1 1 Try.underlying22 hi.out rfl _ 0 _ rfl (own_lit0 w w.heap.size 5 (Nat.le_refl _)) v l.length (bc l) rfl (Src.ofHas Try.underlying22 (hB.out.upd (Upd.alloc Non w _) fun _ _ h => h) (bc_one l)) (by unfold maxLen; omega) (by omega) (by simp) ?_))
  intro v1 w1 ho1 hu1 hf1
  replace hu1 : Upd (At (.slice (some ⟨w.heap.size, 0, none⟩) 0 0)) _ w1 := hu1
  have ho : Own w1 w.heap.size 5 v1 l := by have := own_app (l := []) ho1; simpa using this
  have hU := Lib.hid ((Upd.alloc Non w _).trans hu1 fun j hj h => by simp [At, Value.ownBlock] at h; omega)
  clear ho1 hu1 hf1
  replace ho := Lib.hid ho
  go_wp2_with fail
  refine (fNewReader _ _ _ ho.out.bytes hl).mono ?_
  rintro e w2 ⟨r, rfl, hr, hu, hrle⟩
  have hz1 := hU.out.size
  have hstr := run_str (P := Try.prog) _ 22 9 5 Try.underlying22 Try.underlying5 Try.underlying9 _ _ (hB.out.upd (hU.out.trans hu fun _ _ h => h) fun _ _ h => h)
  have hU2 := Lib.hid (hU.out.trans hu fun _ _ h => h)
  have hrl := hr.lt
  have hz2 := hU2.out.size
  replace hr := Lib.hid hr
  clear hu
  go_wp2_with fail
  clear hstr
  obtain ⟨M, hM⟩ : ∃ M, M = w2.heap.size := ⟨_, rfl⟩
  rw [← hM]
  go_loopw [7] (fun i wr => ∃ (k a : Nat) (e : Int), k ≤ asks.length ∧ i = .int .i64 k ∧ RdAt wr r w1.heap.size l a e ∧ wr.heap[M]? = some (.cells #[.string ⟨l.toArray⟩, .int .i64 a, .int .i64 e] 36 (0, 0)) ∧ Upd Non w wr) (fun i _ => asks.length - (intOf i).toNat)
  case atStart => exact ⟨0, 0, 0, by omega, rfl, hr.out.non (Upd.alloc _ _ _), by rw [hM]; exact heap_alloc_new _ _, hU2.out.then_alloc _⟩
  rw [← hM] at hrl hz2
  clear hr hU2 hM hU ho
  case round =>
    obtain ⟨k, a, e, hk, rfl, hr, hm, hu⟩ := hrel
    have hle := hr.le
    obtain ⟨c0, f0⟩ := cells_of hm
    have hMz := heap_lt hm
    have hz := hu.size
    replace hr := Lib.hid hr
    replace hu := Lib.hid hu
    replace hm := Lib.hid hm
    by_cases hlt : k < asks.length
    · obtain ⟨hl0, a', c', hv, hnc, hcm, hc⟩ := hA.out
      injection hv with e1 _ e3
      subst e1; subst e3
      rcases hc with hc | ⟨g, off, rfl, hc⟩
      · omega
      have hg := askCells_get asks k hlt
      have hc1 := hu.out.cell (hc _ _ hg.1) (fun h => h)
      have hc2 := hu.out.cell (hc _ _ hg.2) (fun h => h)
      rw [Nat.mul_comm] at hc1
      rw [Nat.mul_comm, ← Nat.add_assoc] at hc2
      clear hc hg
      have hlt' : (k : Int) < asks.length := by omega
      generalize hx : asks[k] = ask at *
      obtain ⟨kind, most⟩ := ask
      clear hx
      by_cases hk4 : 0 ≤ kind ∧ kind < 4
      · obtain ⟨hk0, hk3⟩ := hk4
        obtain ⟨kd, rfl⟩ := Int.eq_ofNat_of_zero_le hk0
        have hkd : kd < 4 := by omega
        have hwid : wrap64 (2 ^ kd) = ((wid kd : Nat) : Int) := by
          obtain rfl | rfl | rfl | rfl : kd = 0 ∨ kd = 1 ∨ kd = 2 ∨ kd = 3 := by omega
          all_goals decide +kernel
        have hw8 := (wid_lt kd hkd).2
        have hal := rdNum_le l a (wid kd) e hle
        have hrn := refNum l a e (wid kd) wr hle hl hw8
        have hlg := fun w h => lGet r l a e kd (L := w1.heap.size) w hkd h
        generalize rdNum l a e (wid kd) = q at hrn hlg hal
        obtain ⟨a', e', x'⟩ := q
        simp only at hrn hlg hal
        replace hrn := Lib.hid hrn
        replace hlg := Lib.hid hlg
        go_wp2_with fail
        refine hrn.out.mono ?_
        rintro e1 w3 ⟨rfl, hu3⟩
        have hm3 := hu3.heap hm.out fun h => h
        obtain ⟨d0, g0⟩ := cells_of hm3
        replace hr := Lib.hid (hr.out.non hu3)
        replace hu := Lib.hid (hu.out.trans hu3 fun _ _ h => h)
        have hz3 := hu3.size
        clear hu3 c0 f0 hc1 hm
        replace hm3 := Lib.hid hm3
        go_wp2_with fail
        refine (hlg.out _ (hr.out.upd (Upd.alloc Non _ _) fun _ _ h => h.elim)).mono ?_
        rintro e2 w4 ⟨rfl, hr4, hu4⟩
        obtain ⟨c4, f4, hz4, hu4'⟩ := hu4.own1 (fun k hk => by subst hk; omega)
        have hm4 := hu4'.heap hm3.out (fun h => by omega)
        obtain ⟨d4, g4⟩ := cells_of hm4
        have hz4' := hu4'.size
        clear d0 g0 hc2
        go_wp2_with fail
        have hB4 : Below w.heap.size w w4 := (hu.out.belowN (Nat.le_refl _)).trans (hu4'.below1 (by omega) (by omega))
        clear hu4' hu4 d4 g4 c4 f4 hm3 hr hu hz4
        have h5 := set3 hm4 (.string ⟨l.toArray⟩) (.int .i64 a') (.int .i64 e')
        generalize ((w4.setCell ⟨M, 0, none⟩ (.string ⟨l.toArray⟩)).setCell ⟨M, 1, none⟩ (.int .i64 a')).setCell ⟨M, 2, none⟩ (.int .i64 e') = w5 at *
        obtain ⟨hm5, hu5⟩ := h5
        have hr5 := hr4.upd hu5 (fun k _ hk => by right; omega)
        have hA5 : Alk M r w1.heap.size l a' e' w w5 := ⟨hm5, hr5, hB4.trans (hu5.below1 (by omega) (by omega))⟩
        clear hm4 hr4 hu5 hm5 hr5 hB4
        go_region_held3 (fun w' => w'.cell? ⟨M, 0, none⟩ = some (.string ⟨l.toArray⟩) ∧ w'.cell? ⟨M, 1, none⟩ = some (.int .i64 a') ∧ w'.cell? ⟨M, 2, none⟩ = some (.int .i64 e') ∧ Alk M r w1.heap.size l a' e' w w')
          ((refine Alk.next (w := w5) ?_ hA5; (repeat (first | (with_reducible exact Upd.refl _ _) | (with_reducible assumption) | (with_reducible refine Upd.then_drew ?_) | (with_reducible refine Upd.then_drewN ?_ _) | (with_reducible refine Upd.then_alloc ?_ _) | (with_reducible refine Upd.then_setCell ?_ (fun h => absurd h (by simp <;> omega)) _) | (with_reducible refine Upd.trans ?_ (Upd.non (by assumption)) (fun _ _ h => h))))))
          (first
            | (go_at_call 19; refine (fAt r l a' e' _ (Alk.rd (by assumption))).mono ?_; rintro e w' ⟨rfl, rfl⟩)
            | (go_at_call 20; refine (fErr r l a' e' _ (Alk.rd (by assumption))).mono ?_; rintro e w' ⟨rfl, rfl⟩)
            | (go_at_call 21; refine (fEnd r l a' e' _ (Alk.rd (by assumption))).mono ?_; rintro e w' ⟨rfl, n, rfl⟩)
            | (go_at_call 22; refine (refEnd l a' e' _).mono ?_; rintro e w' ⟨rfl, hu⟩))
        have hA6 : Alk M r w1.heap.size l a' e' w w' := Alk.of (by assumption)
        replace hA6 := Lib.hid hA6
        go_wp2_with fail
        go_roundw
        case rel => exact ⟨k + 1, a', e', by omega, by go_num, hA6.out.2.1, hA6.out.1, nonOf hA6.out.2.2⟩
        case measure => simp [intOf]; omega
      · have hk4' : kind < 0 ∨ 4 ≤ kind := by omega
        clear hk4
        have hal := rdText_le l a e most hle
        have hrn := refTextR l a e most
        have hlg := fun w h => fText r l a e most (L := w1.heap.size) w h
        generalize rdText l a e most = q at hrn hlg hal
        obtain ⟨a', e', x'⟩ := q
        simp only at hrn hlg hal
        replace hrn := Lib.hid hrn
        replace hlg := Lib.hid hlg
        rcases hk4' with hk4 | hk4
        all_goals
          go_wp2_with fail
          have hgz := World.block_lt_of_cell? wr _ hc2
          simp only at hgz
          have hMb : M < wr.heap.size := hMz
          have hrb : r < wr.heap.size := by omega
          have hgb : g < wr.heap.size := hgz
          have hA0 : Alk M r w1.heap.size l a e w wr := ⟨hm.out, hr.out, hu.out.belowN (Nat.le_refl _)⟩
          go_region_held3 (fun w' => w'.cell? ⟨M, 0, none⟩ = some (.string ⟨l.toArray⟩) ∧ w'.cell? ⟨M, 1, none⟩ = some (.int .i64 a) ∧ w'.cell? ⟨M, 2, none⟩ = some (.int .i64 e) ∧ w'.cell? ⟨g, off + k * 2 + 1, none⟩ = some (.int .i64 most) ∧ Alk M r w1.heap.size l a e w w')
            ((refine Alk.next1 (w := wr) ?_ hc2 hA0; (repeat (first | (with_reducible exact Upd.refl _ _) | (with_reducible assumption) | (with_reducible refine Upd.then_drew ?_) | (with_reducible refine Upd.then_drewN ?_ _) | (with_reducible refine Upd.then_alloc ?_ _) | (with_reducible refine Upd.then_setCell ?_ (fun h => absurd h (by simp <;> omega)) _) | (with_reducible refine Upd.trans ?_ (Upd.non (by assumption)) (fun _ _ h => h))))))
            (first
              | (go_at_call 17; refine (ret_new wr (fun w => hrn.out w hle hl) _ _).mono ?_; rintro e w' ⟨rfl, hu, hc7, hf7, hz7, h10⟩)
              | (go_at_call 17; refine (hrn.out _ hle hl).mono ?_; rintro e w' ⟨rfl, hu⟩))
          · have hN := heap_alloc_new w' (.cells #[.string ⟨l.toArray⟩, .int .i64 a', .int .i64 e'] 36)
            have hAW : Alk M r w1.heap.size l a e w (w'.alloc (.cells #[.string ⟨l.toArray⟩, .int .i64 a', .int .i64 e'] 36)) := hA0.non (by (repeat (first | (with_reducible exact Upd.refl _ _) | (with_reducible assumption) | (with_reducible refine Upd.then_drew ?_) | (with_reducible refine Upd.then_drewN ?_ _) | (with_reducible refine Upd.then_alloc ?_ _) | (with_reducible refine Upd.then_setCell ?_ (fun h => absurd h (by simp <;> omega)) _) | (with_reducible refine Upd.trans ?_ (Upd.non (by assumption)) (fun _ _ h => h)))))
            have hNb : wr.heap.size ≤ w'.heap.size := hu.size
            generalize w'.alloc (.cells #[.string ⟨l.toArray⟩, .int .i64 a', .int .i64 e'] 36) = W at *
            generalize w'.heap.size = N at *
            have hzW := heap_lt hN
            have hzw0 := hAW.2.2.size
            clear hA0 hc1 hc2 hm hr hu c0 f0
            (try clear hc7 hf7)
            replace hN := Lib.hid hN
            replace hAW := Lib.hid hAW
            go_wp2_with fail
            refine (hlg.out _ hAW.out.2.1).mono ?_
            rintro e2 w4 ⟨rfl, hr4, hu4⟩
            have hm4 := hu4.heap hAW.out.1 (fun h => by omega)
            have hn4 := hu4.heap hN.out (fun h => by omega)
            obtain ⟨c4, f4⟩ := cells_of hn4
            obtain ⟨d4, g4⟩ := cells_of hm4
            have hz4' := hu4.size
            have hB4 : Below w.heap.size w w4 := hAW.out.2.2.trans (hu4.below1 (by omega) (by omega))
            clear hN hAW hn4 hu4
            go_wp2_with fail
            clear c4 f4 d4 g4
            have h5 := set3 hm4 (.string ⟨l.toArray⟩) (.int .i64 a') (.int .i64 e')
            generalize ((w4.setCell ⟨M, 0, none⟩ (.string ⟨l.toArray⟩)).setCell ⟨M, 1, none⟩ (.int .i64 a')).setCell ⟨M, 2, none⟩ (.int .i64 e') = w5 at *
            obtain ⟨hm5, hu5⟩ := h5
            have hr5 := hr4.upd hu5 (fun k _ hk => by right; omega)
            have hA5 : Alk M r w1.heap.size l a' e' w w5 := ⟨hm5, hr5, hB4.trans (hu5.below1 (by omega) (by omega))⟩
            clear hm4 hr4 hu5 hm5 hr5 hB4
            go_region_held3 (fun w' => w'.cell? ⟨M, 0, none⟩ = some (.string ⟨l.toArray⟩) ∧ w'.cell? ⟨M, 1, none⟩ = some (.int .i64 a') ∧ w'.cell? ⟨M, 2, none⟩ = some (.int .i64 e') ∧ Alk M r w1.heap.size l a' e' w w')
              ((refine Alk.next (w := w5) ?_ hA5; (repeat (first | (with_reducible exact Upd.refl _ _) | (with_reducible assumption) | (with_reducible refine Upd.then_drew ?_) | (with_reducible refine Upd.then_drewN ?_ _) | (with_reducible refine Upd.then_alloc ?_ _) | (with_reducible refine Upd.then_setCell ?_ (fun h => absurd h (by simp <;> omega)) _) | (with_reducible refine Upd.trans ?_ (Upd.non (by assumption)) (fun _ _ h => h))))))
              (first
                | (go_at_call 19; refine (fAt r l a' e' _ (Alk.rd (by assumption))).mono ?_; rintro e w' ⟨rfl, rfl⟩)
                | (go_at_call 20; refine (fErr r l a' e' _ (Alk.rd (by assumption))).mono ?_; rintro e w' ⟨rfl, rfl⟩)
                | (go_at_call 21; refine (fEnd r l a' e' _ (Alk.rd (by assumption))).mono ?_; rintro e w' ⟨rfl, n, rfl⟩)
                | (go_at_call 22; refine (refEnd l a' e' _).mono ?_; rintro e w' ⟨rfl, hu⟩))
            have hA6 : Alk M r w1.heap.size l a' e' w w' := Alk.of (by assumption)
            replace hA6 := Lib.hid hA6
            go_wp2_with fail
            go_roundw
            case rel => exact ⟨k + 1, a', e', by omega, by go_num, hA6.out.2.1, hA6.out.1, nonOf hA6.out.2.2⟩
            case measure => simp [intOf]; omega
          · have hN := (set3 h10 (.string ⟨l.toArray⟩) (.int .i64 a') (.int .i64 e')).1
            have hAW : Alk M r w1.heap.size l a e w (((w'.setCell ⟨wr.heap.size, 0, none⟩ (.string ⟨l.toArray⟩)).setCell ⟨wr.heap.size, 1, none⟩ (.int .i64 a')).setCell ⟨wr.heap.size, 2, none⟩ (.int .i64 e')) := hA0.non (by (repeat (first | (with_reducible exact Upd.refl _ _) | (with_reducible assumption) | (with_reducible refine Upd.then_drew ?_) | (with_reducible refine Upd.then_drewN ?_ _) | (with_reducible refine Upd.then_alloc ?_ _) | (with_reducible refine Upd.then_setCell ?_ (fun h => absurd h (by simp <;> omega)) _) | (with_reducible refine Upd.trans ?_ (Upd.non (by assumption)) (fun _ _ h => h)))))
            have hNb : wr.heap.size ≤ wr.heap.size := Nat.le_refl _
            generalize ((w'.setCell ⟨wr.heap.size, 0, none⟩ (.string ⟨l.toArray⟩)).setCell ⟨wr.heap.size, 1, none⟩ (.int .i64 a')).setCell ⟨wr.heap.size, 2, none⟩ (.int .i64 e') = W at *
            generalize hNe : wr.heap.size = N at *
            have hzW := heap_lt hN
            have hzw0 := hAW.2.2.size
            clear hA0 hc1 hc2 hm hr hu c0 f0
            (try clear hc7 hf7)
            replace hN := Lib.hid hN
            replace hAW := Lib.hid hAW
            go_wp2_with fail
            refine (hlg.out _ hAW.out.2.1).mono ?_
            rintro e2 w4 ⟨rfl, hr4, hu4⟩
            have hm4 := hu4.heap hAW.out.1 (fun h => by omega)
            have hn4 := hu4.heap hN.out (fun h => by omega)
            obtain ⟨c4, f4⟩ := cells_of hn4
            obtain ⟨d4, g4⟩ := cells_of hm4
            have hz4' := hu4.size
            have hB4 : Below w.heap.size w w4 := hAW.out.2.2.trans (hu4.below1 (by omega) (by omega))
            clear hN hAW hn4 hu4
            go_wp2_with fail
            clear c4 f4 d4 g4
            have h5 := set3 hm4 (.string ⟨l.toArray⟩) (.int .i64 a') (.int .i64 e')
            generalize ((w4.setCell ⟨M, 0, none⟩ (.string ⟨l.toArray⟩)).setCell ⟨M, 1, none⟩ (.int .i64 a')).setCell ⟨M, 2, none⟩ (.int .i64 e') = w5 at *
            obtain ⟨hm5, hu5⟩ := h5
            have hr5 := hr4.upd hu5 (fun k _ hk => by right; omega)
            have hA5 : Alk M r w1.heap.size l a' e' w w5 := ⟨hm5, hr5, hB4.trans (hu5.below1 (by omega) (by omega))⟩
            clear hm4 hr4 hu5 hm5 hr5 hB4
            go_region_held3 (fun w' => w'.cell? ⟨M, 0, none⟩ = some (.string ⟨l.toArray⟩) ∧ w'.cell? ⟨M, 1, none⟩ = some (.int .i64 a') ∧ w'.cell? ⟨M, 2, none⟩ = some (.int .i64 e') ∧ Alk M r w1.heap.size l a' e' w w')
              ((refine Alk.next (w := w5) ?_ hA5; (repeat (first | (with_reducible exact Upd.refl _ _) | (with_reducible assumption) | (with_reducible refine Upd.then_drew ?_) | (with_reducible refine Upd.then_drewN ?_ _) | (with_reducible refine Upd.then_alloc ?_ _) | (with_reducible refine Upd.then_setCell ?_ (fun h => absurd h (by simp <;> omega)) _) | (with_reducible refine Upd.trans ?_ (Upd.non (by assumption)) (fun _ _ h => h))))))
              (first
                | (go_at_call 19; refine (fAt r l a' e' _ (Alk.rd (by assumption))).mono ?_; rintro e w' ⟨rfl, rfl⟩)
                | (go_at_call 20; refine (fErr r l a' e' _ (Alk.rd (by assumption))).mono ?_; rintro e w' ⟨rfl, rfl⟩)
                | (go_at_call 21; refine (fEnd r l a' e' _ (Alk.rd (by assumption))).mono ?_; rintro e w' ⟨rfl, n, rfl⟩)
                | (go_at_call 22; refine (refEnd l a' e' _).mono ?_; rintro e w' ⟨rfl, hu⟩))
            have hA6 : Alk M r w1.heap.size l a' e' w w' := Alk.of (by assumption)
            replace hA6 := Lib.hid hA6
            go_wp2_with fail
            go_roundw
            case rel => exact ⟨k + 1, a', e', by omega, by go_num, hA6.out.2.1, hA6.out.1, nonOf hA6.out.2.2⟩
            case measure => simp [intOf]; omega
    · obtain rfl : k = asks.length := by omega
      go_wp2_with fail
      refine (lives01 _).mono ?_
      rintro e w3 ⟨rfl, hu3⟩
      go_wp2_with fail
      go_ret
      exact ⟨rfl, hu.out.trans hu3 fun _ _ h => h⟩

theorem askCells_flat (l : List (Int × Int)) : (l.map fun p => [Value.int .i64 p.1, Value.int .i64 p.2]).flatten = askCells l := rfl
theorem reads_any (l : List UInt8) (asks : List (Int × Int)) (v v1 : Value) (w : World) (hl : l.length ≤ 140737488355328) (hB : Bytes w v l)
    (hA : Has w 2 v1 asks.length (asks.map fun p => [Value.int .i64 p.1, Value.int .i64 p.2]).flatten) :
    Calls Try.prog 5 #[v, v1] w (Ret (.bool true) w) := by
  have hA' := hA
  obtain ⟨_, a, c, rfl, _⟩ := hA'
  by_cases h : 1000 < asks.length
  · exact reads_long l v a _ c w hl hB h
  · exact reads_in l v asks a c w hl hB (by omega) hA
end Go.Proofs.Ytgemlapmjbgdkaa
