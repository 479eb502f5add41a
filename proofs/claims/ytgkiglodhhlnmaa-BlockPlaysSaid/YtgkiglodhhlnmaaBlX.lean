/- The reference's New, Read, Write. -/
import Derived.Test.YtgkiglodhhlnmaaBlW
import Derived.Handy
namespace Go.Amb
open Go.RowKit
set_option linter.unusedVariables false
/-- What is read of the reference's disk. -/
def Dk.readR (r : Dk) (i : Int) : List UInt8 := if r.within i = 0 then r.hasR i.toNat else []
/-- A slice's block: an elder one's, or a new one. -/
def Nw (w w' : World) (v v' : Value) : Prop := ∀ k, At v' k → At v k ∨ (w.heap.size ≤ k ∧ k < w'.heap.size)
theorem Nw.refl (w w' : World) (v : Value) : Nw w w' v v := fun _ h => .inl h
end Go.Amb
namespace Go.Proofs.Ytgkiglodhhlnmaa
open Go.RowKit Go.Amb Go.Shelf
set_option linter.unusedVariables false
set_option linter.unusedSimpArgs false
set_option maxRecDepth 100000
theorem Same.reads {d r : Dk} (h : Same d r) (i : Int) : d.reads i = r.readR i := by
  have hw : d.within i = r.within i := by unfold Dk.within; rw [h.k, h.dd, List.length_map]
  unfold Dk.reads Dk.readR
  rw [hw]
  by_cases h0 : r.within i = 0
  · rw [if_pos h0, if_pos h0]
    have := Dk.within_0 h0
    exact h.has (by omega)
  · rw [if_neg h0, if_neg h0]
theorem run_makeS (m : Nat) (hm : m ≤ 1000000) (w : World) : (Instr.makeSlice 40 (.int .i64 (m : Int)) (.int .i64 (m : Int))).run Try.prog w = .ok (.slice (some ⟨w.heap.size, 0, none⟩) m m) (w.alloc (.cells (Array.replicate m (.string ⟨#[]⟩)) 9)) := by
  obtain ⟨i, hi, hz0, hsz, hby⟩ := info_parts (show (Try.prog.info? 9).map (fun i => (i.zero, i.size, i.bytes)) = some (some (.string ⟨#[]⟩), 1, 16) by kernel_rfl)
  have hr := run_make (P := Try.prog) w 40 9 i _ Try.underlying40 hi hz0 .i64 .i64 (m : Int) (m : Int) (by omega) (by omega) (by rw [hby]; omega) (by omega)
  rw [hr, hsz]
  simp only [Int.toNat_natCast, Nat.mul_one]
  congr 3
  apply Array.ext_getElem?
  intro k
  simp only [madeCells, Value.cells, Array.getElem?_map, Array.getElem?_range, Array.getElem?_replicate]
  by_cases hk : k < m <;> simp [hk, Nat.mod_one]
/-- The reference's New. -/
theorem refNew (m : Nat) (h1 : 1 ≤ m) (h2 : m ≤ 16384) (w : World) :
    Calls Try.prog 18 #[.int .i64 (m : Int)] w (fun en w' => ∃ kv, en = .returned (.tuple #[rfv ⟨List.replicate m [], [], -1, false⟩ kv (.slice none 0 0), .int .i64 0]) ∧ RAt w' ⟨List.replicate m [], [], -1, false⟩ kv (.slice none 0 0) ∧ Upd Non w w' ∧ ∀ k, At kv k → w.heap.size ≤ k ∧ k < w'.heap.size) := by
  have hmk := run_makeS m (by omega)
  unfold rfv
  simp only [List.length_replicate]
  have h3 : ((m : Int) < 1) = False := eq_false (by omega)
  have h4 : (16384 < (m : Int)) = False := eq_false (by omega)
  have h5 : (1 : Int) ≤ m := by omega
  have h6 : (m : Int) ≤ 16384 := by omega
  replace h1 := Lib.hid h1
  replace h2 := Lib.hid h2
  go_enter Try.func18, Try.ntmps18
  go_wp2_with fail
  refine bodyPost_ret (v := .tuple #[.agg #[.int .i64 (m : Int), .slice (some ⟨w.heap.size + 1, 0, none⟩) m m, .slice none 0 0, .int .i64 (-1), .bool false], .int .i64 0]) (by simp [results, Try.results18, go_sem]; try rfl) rfl ⟨_, rfl, ⟨?_, ⟨by simp, none, 0, rfl, Nat.le_refl _, Nat.zero_le _, .inl rfl⟩⟩, by (repeat (first | (with_reducible exact Upd.refl _ _) | (with_reducible assumption) | (with_reducible refine Upd.then_drew ?_) | (with_reducible refine Upd.then_drewN ?_ _) | (with_reducible refine Upd.then_alloc ?_ _) | (with_reducible refine Upd.then_setCell ?_ (fun h => absurd h (by simp <;> omega)) _) | (with_reducible refine Upd.trans ?_ (Upd.non (by assumption)) (fun _ _ h => h)))), fun k hk => ?_⟩
  · have hh := has_new ((w.alloc (.cells #[.int .i64 (m : Int), .slice (some ⟨w.heap.size + 1, 0, none⟩) m m, .slice none 0 0, .int .i64 (-1), .bool false] 48))) (List.replicate m (.string ⟨#[]⟩)) 9 1 m (by simp) (by have := h2.out; unfold maxLen; omega)
    show Has _ 1 _ (List.replicate m ([] : List UInt8)).length ((List.replicate m ([] : List UInt8)).map strV)
    rw [List.length_replicate, List.map_replicate]
    simpa [strV] using hh
  · simp [At, Value.ownBlock] at hk
    subst hk
    simp
/-- .. refuses. -/
theorem refNewNo (n : Int) (h : ¬ (1 ≤ n ∧ n ≤ 16384)) (w : World) :
    Calls Try.prog 18 #[.int .i64 n] w (Ret (.tuple #[.agg #[.int .i64 0, .slice none 0 0, .slice none 0 0, .int .i64 0, .bool false], .int .i64 2]) w) := by
  by_cases h1 : n < 1
  · clear h
    go_enter Try.func18, Try.ntmps18
    go_wp2_with fail
    refine bodyPost_ret (v := .tuple #[.agg #[.int .i64 0, .slice none 0 0, .slice none 0 0, .int .i64 0, .bool false], .int .i64 2]) (by simp [results, Try.results18, go_sem]; try rfl) rfl ⟨rfl, by (repeat (first | (with_reducible exact Upd.refl _ _) | (with_reducible assumption) | (with_reducible refine Upd.then_drew ?_) | (with_reducible refine Upd.then_drewN ?_ _) | (with_reducible refine Upd.then_alloc ?_ _) | (with_reducible refine Upd.then_setCell ?_ (fun h => absurd h (by simp <;> omega)) _) | (with_reducible refine Upd.trans ?_ (Upd.non (by assumption)) (fun _ _ h => h))))⟩
  · have h2 : 16384 < n := by omega
    have h3 : (n < 1) = False := eq_false h1
    have h4 : 1 ≤ n := by omega
    clear h h1
    go_enter Try.func18, Try.ntmps18
    go_wp2_with fail
    refine bodyPost_ret (v := .tuple #[.agg #[.int .i64 0, .slice none 0 0, .slice none 0 0, .int .i64 0, .bool false], .int .i64 2]) (by simp [results, Try.results18, go_sem]; try rfl) rfl ⟨rfl, by (repeat (first | (with_reducible exact Upd.refl _ _) | (with_reducible assumption) | (with_reducible refine Upd.then_drew ?_) | (with_reducible refine Upd.then_drewN ?_ _) | (with_reducible refine Upd.then_alloc ?_ _) | (with_reducible refine Upd.then_setCell ?_ (fun h => absurd h (by simp <;> omega)) _) | (with_reducible refine Upd.trans ?_ (Upd.non (by assumption)) (fun _ _ h => h))))⟩
set_option maxHeartbeats 2000000 in
/-- The reference's Read. -/
theorem refRead (r : Dk) (kv pv : Value) (w : World) (h : RAt w r kv pv) (hl : ∀ s ∈ r.K, s.length ≤ 128) (hP : r.P.length ≤ 1000000) (hK : r.K.length ≤ 1000000) (i : Int) :
    Calls Try.prog 22 #[rfv r kv pv, .int .i64 i] w (Ret (.tuple #[.string ⟨(r.readR i).toArray⟩, .int .i64 (r.within i)]) w) := by
  obtain ⟨_, ka, kc, rfl, -⟩ := id h.k
  obtain ⟨_, pa, pcp, rfl, -⟩ := id h.p
  have hhas := Lib.hid (fun w' (hu : Upd Non w w') (j : Nat) (hj : j < r.K.length) => refHas r _ _ w' (h.non hu) hl hP j hj)
  clear h hl
  obtain ⟨m, hm⟩ : ∃ m, r.K.length = m := ⟨_, rfl⟩
  obtain ⟨n, hn⟩ : ∃ n, r.P.length = n := ⟨_, rfl⟩
  obtain ⟨f, hf⟩ : ∃ f, r.f = f := ⟨_, rfl⟩
  unfold Dk.readR Dk.within
  rw [hm]
  cases hd : r.dd with
  | true =>
    simp only [if_true, show ¬ (20 : Int) = 0 by omega, if_false, rfv, hm, hn, hf, hd]
    clear hhas hm hn hf hd hP
    go_enter Try.func22, Try.ntmps22
    go_wp2_with fail
    go_returns
    exact ⟨rfl, by (repeat (first | (with_reducible exact Upd.refl _ _) | (with_reducible assumption) | (with_reducible refine Upd.then_drew ?_) | (with_reducible refine Upd.then_drewN ?_ _) | (with_reducible refine Upd.then_alloc ?_ _) | (with_reducible refine Upd.then_setCell ?_ (fun h => absurd h (by simp <;> omega)) _) | (with_reducible refine Upd.trans ?_ (Upd.non (by assumption)) (fun _ _ h => h))))⟩
  | false =>
    simp only [Bool.false_eq_true, if_false]
    by_cases hi : i < 0 ∨ (m : Int) ≤ i
    · simp only [hi, if_true, show ¬ (6 : Int) = 0 by omega, if_false, rfv, hm, hn, hf, hd]
      clear hhas hm hn hf hd hP
      by_cases h1 : i < 0
      · clear hi
        go_enter Try.func22, Try.ntmps22
        go_wp2_with fail
        go_returns
        exact ⟨rfl, by (repeat (first | (with_reducible exact Upd.refl _ _) | (with_reducible assumption) | (with_reducible refine Upd.then_drew ?_) | (with_reducible refine Upd.then_drewN ?_ _) | (with_reducible refine Upd.then_alloc ?_ _) | (with_reducible refine Upd.then_setCell ?_ (fun h => absurd h (by simp <;> omega)) _) | (with_reducible refine Upd.trans ?_ (Upd.non (by assumption)) (fun _ _ h => h))))⟩
      · have h2 : (m : Int) ≤ i := by omega
        have h3 : (i < 0) = False := eq_false h1
        have h4 : 0 ≤ i := by omega
        clear hi h1
        go_enter Try.func22, Try.ntmps22
        go_wp2_with fail
        go_returns
        exact ⟨rfl, by (repeat (first | (with_reducible exact Upd.refl _ _) | (with_reducible assumption) | (with_reducible refine Upd.then_drew ?_) | (with_reducible refine Upd.then_drewN ?_ _) | (with_reducible refine Upd.then_alloc ?_ _) | (with_reducible refine Upd.then_setCell ?_ (fun h => absurd h (by simp <;> omega)) _) | (with_reducible refine Upd.trans ?_ (Upd.non (by assumption)) (fun _ _ h => h))))⟩
    · simp only [hi, if_true, if_false]
      obtain ⟨j, rfl⟩ := Int.eq_ofNat_of_zero_le (show 0 ≤ i by omega)
      have hj : (j : Int) < (m : Int) := by omega
      have hhj := Lib.hid (fun w' (hu : Upd Non w w') => hhas.out w' hu j (by omega))
      have h0 : (0 : Int) ≤ (j : Int) := by omega
      have h3 : ((j : Int) < 0) = False := eq_false (by omega)
      have h4 : ((m : Int) ≤ (j : Int)) = False := eq_false (by omega)
      clear hhas hi hK hP
      simp only [rfv, hm, hn, hf, hd, Int.toNat_natCast] at hhj ⊢
      obtain ⟨a, ha⟩ : ∃ a, r.hasR j = a := ⟨_, rfl⟩
      rw [ha] at hhj ⊢
      clear hm hn hf hd ha
      go_enter Try.func22, Try.ntmps22
      go_wp2_with fail
      refine (hhj.out _ (by (repeat (first | (with_reducible exact Upd.refl _ _) | (with_reducible assumption) | (with_reducible refine Upd.then_drew ?_) | (with_reducible refine Upd.then_drewN ?_ _) | (with_reducible refine Upd.then_alloc ?_ _) | (with_reducible refine Upd.then_setCell ?_ (fun h => absurd h (by simp <;> omega)) _) | (with_reducible refine Upd.trans ?_ (Upd.non (by assumption)) (fun _ _ h => h)))))).mono ?_
      rintro en w2 ⟨rfl, hu2⟩
      simp only []
      go_wp2_with fail
      go_returns
      exact ⟨rfl, by (repeat (first | (with_reducible exact Upd.refl _ _) | (with_reducible assumption) | (with_reducible refine Upd.then_drew ?_) | (with_reducible refine Upd.then_drewN ?_ _) | (with_reducible refine Upd.then_alloc ?_ _) | (with_reducible refine Upd.then_setCell ?_ (fun h => absurd h (by simp <;> omega)) _) | (with_reducible refine Upd.trans ?_ (Upd.non (by assumption)) (fun _ _ h => h))))⟩
end Go.Proofs.Ytgkiglodhhlnmaa
