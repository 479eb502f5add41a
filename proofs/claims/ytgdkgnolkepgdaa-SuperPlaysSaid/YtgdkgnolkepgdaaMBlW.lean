/- The reference's Has, Read. -/
import Derived.Test.YtgdkgnolkepgdaaMBlV
import Derived.Handy
namespace Go.Amb
open Go.RowKit
set_option linter.unusedVariables false
theorem lastAt_at {P : List (List UInt8 × Nat)} {i k : Nat} (hk : k < P.length) (h1 : P[k].2 = i) (h2 : ∀ j (hj : j < P.length), k < j → P[j].2 ≠ i) : lastAt P i = some P[k].1 := by
  have e : P = P.take k ++ P[k] :: P.drop (k + 1) := by rw [← List.drop_eq_getElem_cons hk, List.take_append_drop]
  have er : P.reverse = (P.drop (k + 1)).reverse ++ (P[k] :: (P.take k).reverse) := by conv => lhs; rw [e]
                                                                                       simp
  unfold lastAt
  rw [er, List.find?_append, List.find?_eq_none.2]
  · simp [h1]
  · intro p hp
    rw [List.mem_reverse] at hp
    obtain ⟨j, hj, rfl⟩ := List.mem_iff_getElem.1 hp
    rw [List.length_drop] at hj
    rw [List.getElem_drop, decide_eq_true_eq]
    exact h2 _ (by omega) (by omega)
theorem lastAt_no {P : List (List UInt8 × Nat)} {i : Nat} (h2 : ∀ j (hj : j < P.length), P[j].2 ≠ i) : lastAt P i = none := by
  unfold lastAt
  rw [List.find?_eq_none.2]
  · rfl
  · intro p hp
    rw [List.mem_reverse] at hp
    obtain ⟨j, hj, rfl⟩ := List.mem_iff_getElem.1 hp
    rw [decide_eq_true_eq]
    exact h2 j hj
/-- What the reference's disk has at a sector. -/
def Dk.hasR (r : Dk) (i : Nat) : List UInt8 := (lastAt r.P i).getD (full (r.K.getD i []))
theorem wc_len (P : List (List UInt8 × Nat)) : ∀ s ∈ P.map wc, s.length = 2 := by
  intro s hs
  obtain ⟨x, hx, rfl⟩ := List.mem_map.1 hs
  rfl
end Go.Amb
namespace Go.Proofs.Ytgdkgnolkepgdaa
open Go.RowKit Go.Amb Go.Shelf
set_option linter.unusedVariables false
set_option linter.unusedSimpArgs false
set_option maxRecDepth 100000
theorem Same.has {d r : Dk} (h : Same d r) {i : Nat} (hi : i < r.K.length) : d.has i = r.hasR i := by
  unfold Dk.has Dk.hasR
  rw [h.p, h.k]
  congr 1
  simp [List.getD_eq_getElem?_getD, List.getElem?_map, List.getElem?_eq_getElem hi]
/-- Pending write k of the reference. -/
theorem RAt.write {w : World} {r : Dk} {kv pv : Value} (h : RAt w r kv pv) {k : Nat} (hk : k < r.P.length) : ∃ g off c, pv = .slice (some ⟨g, off, none⟩) r.P.length c ∧ w.cell? ⟨g, off + k * 2, none⟩ = some (.int .i64 (r.P[k].2 : Int)) ∧ w.cell? ⟨g, off + k * 2 + 1, none⟩ = some (.string ⟨r.P[k].1.toArray⟩) := by
  obtain ⟨_, a, c, rfl, -, -, h3⟩ := h.p
  obtain ⟨g, off, rfl, hc⟩ := h3.resolve_left (by omega)
  have hg := fun j (hj : j < 2) => fl_get (wc_len r.P) k j (by rw [List.length_map]; exact hk) hj
  refine ⟨g, off, c, rfl, hc (k * 2) _ ?_, ?_⟩
  · have := hg 0 (by omega); rw [Nat.add_zero, List.getElem_map] at this; exact this
  · rw [Nat.add_assoc]
    refine hc (k * 2 + 1) _ ?_
    have := hg 1 (by omega); rw [List.getElem_map] at this; exact this
theorem RAt.kept {w : World} {r : Dk} {kv pv : Value} (h : RAt w r kv pv) {i : Nat} (hi : i < r.K.length) : ∃ g off c, kv = .slice (some ⟨g, off, none⟩) r.K.length c ∧ w.cell? ⟨g, off + i, none⟩ = some (.string ⟨r.K[i].toArray⟩) := by
  obtain ⟨_, a, c, rfl, -, -, h3⟩ := h.k
  obtain ⟨g, off, rfl, hc⟩ := h3.resolve_left (by omega)
  exact ⟨g, off, c, rfl, hc i _ (by rw [List.getElem?_map, List.getElem?_eq_getElem hi]; rfl)⟩
set_option maxHeartbeats 4000000 in
theorem refHas (r : Dk) (kv pv : Value) (w : World) (h : RAt w r kv pv) (hl : ∀ s ∈ r.K, s.length ≤ 128) (hP : r.P.length ≤ 1000000) (i : Nat) (hi : i < r.K.length) :
    Calls Try.prog 66 #[rfv r kv pv, .int .i64 (i : Int)] w (Ret (.string ⟨(r.hasR i).toArray⟩) w) := by
  obtain ⟨_, pa, pcp, rfl, -⟩ := id h.p
  obtain ⟨gk, ok, ck, rfl, hck⟩ := h.kept hi
  have hF := Lib.hid (fun w => refFull r.K[i] (hl _ (List.getElem_mem hi)) w)
  have hlast := Lib.hid (fun (k : Nat) (hk : k < r.P.length) (h1 : r.P[k].2 = i) (h2 : ∀ j (hj : j < r.P.length), k < j → r.P[j].2 ≠ i) => show r.hasR i = r.P[k].1 by unfold Dk.hasR; rw [lastAt_at hk h1 h2]; rfl)
  have hnone := Lib.hid (fun (h2 : ∀ j (hj : j < r.P.length), r.P[j].2 ≠ i) => show r.hasR i = full r.K[i] by unfold Dk.hasR; rw [lastAt_no h2]; simp [List.getD_eq_getElem?_getD, List.getElem?_eq_getElem hi])
  have hh := Lib.hid h
  have hiK : (i : Int) < (r.K.length : Int) := by omega
  obtain ⟨ans, hans⟩ : ∃ ans, r.hasR i = ans := ⟨_, rfl⟩
  rw [hans] at hlast hnone ⊢
  unfold rfv
  obtain ⟨m, hm⟩ : ∃ m, r.K.length = m := ⟨_, rfl⟩
  obtain ⟨n, hn⟩ : ∃ n, r.P.length = n := ⟨_, rfl⟩
  rw [hm] at hiK ⊢
  rw [hn] at hP ⊢
  obtain ⟨sK, hsK⟩ : ∃ sK, r.K[i] = sK := ⟨_, rfl⟩
  rw [hsK] at hck hF hnone
  have hw0 : IntKind.i64.wrap ((n : Int) - 1) = (n : Int) - 1 := IntWalk.i64_in _ ⟨by omega, by omega⟩
  have hi0 : (0 : Int) ≤ (i : Int) := by omega
  have hA : Upd Non w (w.alloc (.cells #[.int .i64 (m : Int), .slice (some ⟨gk, ok, none⟩) m ck, .slice pa n pcp, .int .i64 r.f, .bool r.dd] 64)) := Upd.alloc _ _ _
  have xk := hA.cell hck fun h => h
  replace hm := Lib.hid hm
  replace hn := Lib.hid hn
  replace hsK := Lib.hid hsK
  replace hans := Lib.hid hans
  clear h hck
  go_enter Try.func66, Try.ntmps66
  go_wp2_with fail
  go_loopw [5] (fun iv wr => ∃ k : Nat, iv = .int .i64 ((k : Int) - 1) ∧ k ≤ n ∧ Hid (∀ j (hj : j < r.P.length), k ≤ j → r.P[j].2 ≠ i) ∧ wr = w.alloc (.cells #[.int .i64 (m : Int), .slice (some ⟨gk, ok, none⟩) m ck, .slice pa n pcp, .int .i64 r.f, .bool r.dd] 64)) (fun iv _ => (intOf iv + 1).toNat)
  case atStart => exact ⟨n, rfl, Nat.le_refl _, Lib.hid (fun j hj h => by have := hn.out; omega), rfl⟩
  case round =>
    obtain ⟨k, rfl, hk, hne, rfl⟩ := hrel
    cases k with
    | zero =>
      rw [show ((0 : Nat) : Int) - 1 = -1 by omega]
      go_wp2_with fail
      refine (hF.out _).mono ?_
      rintro en w2 ⟨rfl, hu2⟩
      have hU := hA.trans hu2 fun _ _ h => h
      simp only []
      go_wp2_with fail
      go_ret
      exact ⟨by rw [hnone.out fun j hj => hne.out j hj (Nat.zero_le _)]; rfl, hU⟩
    | succ k =>
      have hkP : k < r.P.length := by rw [hn.out]; omega
      obtain ⟨gp, op, cp, hpv, p0, p1⟩ := hh.out.write hkP
      injection hpv with e1 e2 e3
      clear e2 e3
      subst e1
      have xp0 := hA.cell p0 fun h => h
      have xp1 := hA.cell p1 fun h => h
      obtain ⟨pi, hpi⟩ : ∃ pi, r.P[k].2 = pi := ⟨_, rfl⟩
      obtain ⟨ps, hps⟩ : ∃ ps, r.P[k].1 = ps := ⟨_, rfl⟩
      rw [hpi] at xp0
      rw [hps] at xp1
      have hk1 : ((k + 1 : Nat) : Int) - 1 = k := by omega
      rw [hk1]
      have hk0 : (0 : Int) ≤ (k : Int) := by omega
      have hkn : (k : Int) < (n : Int) := by omega
      have hwk : IntKind.i64.wrap ((k : Int) - 1) = (k : Int) - 1 := IntWalk.i64_in _ ⟨by omega, by omega⟩
      clear p0 p1
      by_cases hx : pi = i
      · subst hx
        have hls := hlast.out k hkP hpi fun j hj h => hne.out j hj h
        rw [hps] at hls
        replace hls := Lib.hid hls
        replace hpi := Lib.hid hpi
        replace hps := Lib.hid hps
        go_wp2_with fail
        go_ret
        exact ⟨by rw [hls.out]; rfl, hA⟩
      · have hx1 : ((pi : Int) = (i : Int)) = False := eq_false (by omega)
        have hx2 : (pi = i) = False := eq_false hx
        have hx3 : ((pi : Int) == (i : Int)) = false := by simp; omega
        replace hx := Lib.hid hx
        replace hpi := Lib.hid hpi
        replace hps := Lib.hid hps
        go_wp2_with fail
        go_roundw
        case rel =>
          refine ⟨k, by go_num, by omega, Lib.hid (fun j hj h => ?_), trivial⟩
          rcases Nat.eq_or_lt_of_le h with h | h
          · subst h; rw [hpi.out]; exact hx.out
          · exact hne.out j hj h
        case measure => simp [intOf]
end Go.Proofs.Ytgdkgnolkepgdaa

namespace Go.Amb
open Go.RowKit
set_option linter.unusedVariables false
/-- What is read of the reference's disk. -/
def Dk.readR (r : Dk) (i : Int) : List UInt8 := if r.within i = 0 then r.hasR i.toNat else []
/-- A slice's block: an elder one's, or a new one. -/
def Nw (w w' : World) (v v' : Value) : Prop := ∀ k, At v' k → At v k ∨ (w.heap.size ≤ k ∧ k < w'.heap.size)
theorem Nw.refl (w w' : World) (v : Value) : Nw w w' v v := fun _ h => .inl h
end Go.Amb
namespace Go.Proofs.Ytgdkgnolkepgdaa
open Go.RowKit Go.Amb Go.Shelf
set_option linter.unusedVariables false
set_option linter.unusedSimpArgs false
set_option maxRecDepth 100000
theorem Same.reads {d r : Dk} (h : Same d r) (i : Int) : d.reads i = r.readR i := by
  have hw : d.within i = r.within i := by unfold Dk.within; rw [h.k, h.dd, List.length_map]
  unfold Dk.reads Dk.readR
  rw [hw]
  by_cases h0 : r.within i = 0
  · rw [if_pos h0, if_pos h0]
    have := Dk.within_0 h0
    exact h.has (by omega)
  · rw [if_neg h0, if_neg h0]
theorem run_makeS (m : Nat) (hm : m ≤ 1000000) (w : World) : (Instr.makeSlice 61 (.int .i64 (m : Int)) (.int .i64 (m : Int))).run Try.prog w = .ok (.slice (some ⟨w.heap.size, 0, none⟩) m m) (w.alloc (.cells (Array.replicate m (.string ⟨#[]⟩)) 9)) := by
  obtain ⟨i, hi, hz0, hsz, hby⟩ := info_parts (show (Try.prog.info? 9).map (fun i => (i.zero, i.size, i.bytes)) = some (some (.string ⟨#[]⟩), 1, 16) by kernel_rfl)
  have hr := run_make (P := Try.prog) w 61 9 i _ Try.underlying61 hi hz0 .i64 .i64 (m : Int) (m : Int) (by omega) (by omega) (by rw [hby]; omega) (by omega)
  rw [hr, hsz]
  simp only [Int.toNat_natCast, Nat.mul_one]
  congr 3
  apply Array.ext_getElem?
  intro k
  simp only [madeCells, Value.cells, Array.getElem?_map, Array.getElem?_range, Array.getElem?_replicate]
  by_cases hk : k < m <;> simp [hk, Nat.mod_one]
/-- The reference's New. -/
theorem refNew (m : Nat) (h1 : 1 ≤ m) (h2 : m ≤ 16384) (w : World) :
    Calls Try.prog 22 #[.int .i64 (m : Int)] w (fun en w' => ∃ kv, en = .returned (.tuple #[rfv ⟨List.replicate m [], [], -1, false⟩ kv (.slice none 0 0), .int .i64 0]) ∧ RAt w' ⟨List.replicate m [], [], -1, false⟩ kv (.slice none 0 0) ∧ Upd Non w w' ∧ ∀ k, At kv k → w.heap.size ≤ k ∧ k < w'.heap.size) := by
  have hmk := run_makeS m (by omega)
  unfold rfv
  simp only [List.length_replicate]
  have h3 : ((m : Int) < 1) = False := eq_false (by omega)
  have h4 : (16384 < (m : Int)) = False := eq_false (by omega)
  have h5 : (1 : Int) ≤ m := by omega
  have h6 : (m : Int) ≤ 16384 := by omega
  replace h1 := Lib.hid h1
  replace h2 := Lib.hid h2
  go_enter Try.func22, Try.ntmps22
  go_wp2_with fail
  refine bodyPost_ret (v := .tuple #[.agg #[.int .i64 (m : Int), .slice (some ⟨w.heap.size + 1, 0, none⟩) m m, .slice none 0 0, .int .i64 (-1), .bool false], .int .i64 0]) (by simp [results, Try.results22, go_sem]; try rfl) rfl ⟨_, rfl, ⟨?_, ⟨by simp, none, 0, rfl, Nat.le_refl _, Nat.zero_le _, .inl rfl⟩⟩, by (repeat (first | (with_reducible exact Upd.refl _ _) | (with_reducible assumption) | (with_reducible refine Upd.then_drew ?_) | (with_reducible refine Upd.then_drewN ?_ _) | (with_reducible refine Upd.then_alloc ?_ _) | (with_reducible refine Upd.then_setCell ?_ (fun h => absurd h (by simp <;> omega)) _) | (with_reducible refine Upd.trans ?_ (Upd.non (by assumption)) (fun _ _ h => h)))), fun k hk => ?_⟩
  · have hh := has_new ((w.alloc (.cells #[.int .i64 (m : Int), .slice (some ⟨w.heap.size + 1, 0, none⟩) m m, .slice none 0 0, .int .i64 (-1), .bool false] 64))) (List.replicate m (.string ⟨#[]⟩)) 9 1 m (by simp) (by have := h2.out; unfold maxLen; omega)
    show Has _ 1 _ (List.replicate m ([] : List UInt8)).length ((List.replicate m ([] : List UInt8)).map strV)
    rw [List.length_replicate, List.map_replicate]
    simpa [strV] using hh
  · simp [At, Value.ownBlock] at hk
    subst hk
    simp
/-- .. refuses. -/
theorem refNewNo (n : Int) (h : ¬ (1 ≤ n ∧ n ≤ 16384)) (w : World) :
    Calls Try.prog 22 #[.int .i64 n] w (Ret (.tuple #[.agg #[.int .i64 0, .slice none 0 0, .slice none 0 0, .int .i64 0, .bool false], .int .i64 2]) w) := by
  by_cases h1 : n < 1
  · clear h
    go_enter Try.func22, Try.ntmps22
    go_wp2_with fail
    refine bodyPost_ret (v := .tuple #[.agg #[.int .i64 0, .slice none 0 0, .slice none 0 0, .int .i64 0, .bool false], .int .i64 2]) (by simp [results, Try.results22, go_sem]; try rfl) rfl ⟨rfl, by (repeat (first | (with_reducible exact Upd.refl _ _) | (with_reducible assumption) | (with_reducible refine Upd.then_drew ?_) | (with_reducible refine Upd.then_drewN ?_ _) | (with_reducible refine Upd.then_alloc ?_ _) | (with_reducible refine Upd.then_setCell ?_ (fun h => absurd h (by simp <;> omega)) _) | (with_reducible refine Upd.trans ?_ (Upd.non (by assumption)) (fun _ _ h => h))))⟩
  · have h2 : 16384 < n := by omega
    have h3 : (n < 1) = False := eq_false h1
    have h4 : 1 ≤ n := by omega
    clear h h1
    go_enter Try.func22, Try.ntmps22
    go_wp2_with fail
    refine bodyPost_ret (v := .tuple #[.agg #[.int .i64 0, .slice none 0 0, .slice none 0 0, .int .i64 0, .bool false], .int .i64 2]) (by simp [results, Try.results22, go_sem]; try rfl) rfl ⟨rfl, by (repeat (first | (with_reducible exact Upd.refl _ _) | (with_reducible assumption) | (with_reducible refine Upd.then_drew ?_) | (with_reducible refine Upd.then_drewN ?_ _) | (with_reducible refine Upd.then_alloc ?_ _) | (with_reducible refine Upd.then_setCell ?_ (fun h => absurd h (by simp <;> omega)) _) | (with_reducible refine Upd.trans ?_ (Upd.non (by assumption)) (fun _ _ h => h))))⟩
set_option maxHeartbeats 2000000 in
/-- The reference's Read. -/
theorem refRead (r : Dk) (kv pv : Value) (w : World) (h : RAt w r kv pv) (hl : ∀ s ∈ r.K, s.length ≤ 128) (hP : r.P.length ≤ 1000000) (hK : r.K.length ≤ 1000000) (i : Int) :
    Calls Try.prog 53 #[rfv r kv pv, .int .i64 i] w (Ret (.tuple #[.string ⟨(r.readR i).toArray⟩, .int .i64 (r.within i)]) w) := by
  obtain ⟨_, ka, kc, rfl, -⟩ := id h.k
  obtain ⟨_, pa, pcp, rfl, -⟩ := id h.p
  have hhas := Lib.hid (fun w' (hu : Upd Non w w') (j : Nat) (hj : j < r.K.length) => refHas r _ _ w' (h.non hu) hl hP j hj)
  clear h hl
  obtain ⟨m, hm⟩ : ∃ m, r.K.length = m := ⟨_, rfl⟩
  obtain ⟨n, hn⟩ : ∃ n, r.P.length = n := ⟨_, rfl⟩
  obtain ⟨f, hf⟩ : ∃ f, r.f = f := ⟨_, rfl⟩
  unfold Dk.readR Dk.within
  rw [hm]
  cases hd : r.dd with
  | true =>
    simp only [if_true, show ¬ (20 : Int) = 0 by omega, if_false, rfv, hm, hn, hf, hd]
    clear hhas hm hn hf hd hP
    go_enter Try.func53, Try.ntmps53
    go_wp2_with fail
    go_returns
    exact ⟨rfl, by (repeat (first | (with_reducible exact Upd.refl _ _) | (with_reducible assumption) | (with_reducible refine Upd.then_drew ?_) | (with_reducible refine Upd.then_drewN ?_ _) | (with_reducible refine Upd.then_alloc ?_ _) | (with_reducible refine Upd.then_setCell ?_ (fun h => absurd h (by simp <;> omega)) _) | (with_reducible refine Upd.trans ?_ (Upd.non (by assumption)) (fun _ _ h => h))))⟩
  | false =>
    simp only [Bool.false_eq_true, if_false]
    by_cases hi : i < 0 ∨ (m : Int) ≤ i
    · simp only [hi, if_true, show ¬ (6 : Int) = 0 by omega, if_false, rfv, hm, hn, hf, hd]
      clear hhas hm hn hf hd hP
      by_cases h1 : i < 0
      · clear hi
        go_enter Try.func53, Try.ntmps53
        go_wp2_with fail
        go_returns
        exact ⟨rfl, by (repeat (first | (with_reducible exact Upd.refl _ _) | (with_reducible assumption) | (with_reducible refine Upd.then_drew ?_) | (with_reducible refine Upd.then_drewN ?_ _) | (with_reducible refine Upd.then_alloc ?_ _) | (with_reducible refine Upd.then_setCell ?_ (fun h => absurd h (by simp <;> omega)) _) | (with_reducible refine Upd.trans ?_ (Upd.non (by assumption)) (fun _ _ h => h))))⟩
      · have h2 : (m : Int) ≤ i := by omega
        have h3 : (i < 0) = False := eq_false h1
        have h4 : 0 ≤ i := by omega
        clear hi h1
        go_enter Try.func53, Try.ntmps53
        go_wp2_with fail
        go_returns
        exact ⟨rfl, by (repeat (first | (with_reducible exact Upd.refl _ _) | (with_reducible assumption) | (with_reducible refine Upd.then_drew ?_) | (with_reducible refine Upd.then_drewN ?_ _) | (with_reducible refine Upd.then_alloc ?_ _) | (with_reducible refine Upd.then_setCell ?_ (fun h => absurd h (by simp <;> omega)) _) | (with_reducible refine Upd.trans ?_ (Upd.non (by assumption)) (fun _ _ h => h))))⟩
    · simp only [hi, if_true, if_false]
      obtain ⟨j, rfl⟩ := Int.eq_ofNat_of_zero_le (show 0 ≤ i by omega)
      have hj : (j : Int) < (m : Int) := by omega
      have hhj := Lib.hid (fun w' (hu : Upd Non w w') => hhas.out w' hu j (by omega))
      have h0 : (0 : Int) ≤ (j : Int) := by omega
      have h3 : ((j : Int) < 0) = False := eq_false (by omega)
      have h4 : ((m : Int) ≤ (j : Int)) = False := eq_false (by omega)
      clear hhas hi hK hP
      simp only [rfv, hm, hn, hf, hd, Int.toNat_natCast] at hhj ⊢
      obtain ⟨a, ha⟩ : ∃ a, r.hasR j = a := ⟨_, rfl⟩
      rw [ha] at hhj ⊢
      clear hm hn hf hd ha
      go_enter Try.func53, Try.ntmps53
      go_wp2_with fail
      refine (hhj.out _ (by (repeat (first | (with_reducible exact Upd.refl _ _) | (with_reducible assumption) | (with_reducible refine Upd.then_drew ?_) | (with_reducible refine Upd.then_drewN ?_ _) | (with_reducible refine Upd.then_alloc ?_ _) | (with_reducible refine Upd.then_setCell ?_ (fun h => absurd h (by simp <;> omega)) _) | (with_reducible refine Upd.trans ?_ (Upd.non (by assumption)) (fun _ _ h => h)))))).mono ?_
      rintro en w2 ⟨rfl, hu2⟩
      simp only []
      go_wp2_with fail
      go_returns
      exact ⟨rfl, by (repeat (first | (with_reducible exact Upd.refl _ _) | (with_reducible assumption) | (with_reducible refine Upd.then_drew ?_) | (with_reducible refine Upd.then_drewN ?_ _) | (with_reducible refine Upd.then_alloc ?_ _) | (with_reducible refine Upd.then_setCell ?_ (fun h => absurd h (by simp <;> omega)) _) | (with_reducible refine Upd.trans ?_ (Upd.non (by assumption)) (fun _ _ h => h))))⟩
end Go.Proofs.Ytgdkgnolkepgdaa
