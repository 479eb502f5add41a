/- The walks over package pager: Release, turn, Settle, Undo. -/
import Derived.Test.YtfjcjppfihafgaaMPgB
namespace Go.Proofs.Ytfjcjppfihafgaa
set_option maxRecDepth 100000
open Go.RowKit Go.Amb
set_option linter.unusedVariables false
set_option linter.unusedSimpArgs false
theorem getD_ext {l m : List Nat} (hl : l.length = m.length) (h : ∀ i, l.getD i 0 = m.getD i 0) : l = m := by
  refine List.ext_getElem hl fun i h1 h2 => ?_
  have := h i
  rw [List.getD_eq_getElem?_getD, List.getD_eq_getElem?_getD, List.getElem?_eq_getElem h1, List.getElem?_eq_getElem h2] at this
  exact this
theorem getD_set (l : List Nat) (i v j : Nat) : (l.set i v).getD j 0 = if i = j ∧ i < l.length then v else l.getD j 0 := by
  rw [List.getD_eq_getElem?_getD, List.getD_eq_getElem?_getD, List.getElem?_set]
  by_cases h : i = j
  · subst h
    by_cases hi : i < l.length
    · simp [hi]
    · simp [hi]
  · simp [h]
theorem turn_getD (goes stays : Nat) (h1 : goes ≠ 0) (h2 : stays ≠ 0) (l : List Nat) (i : Nat) : (turnL goes stays l).getD i 0 = turn1 goes stays (l.getD i 0) := by
  have e : turn1 goes stays 0 = 0 := by unfold turn1; rw [if_neg (fun e => h1 e.symm), if_neg (fun e => h2 e.symm)]
  unfold turnL
  rw [List.getD_eq_getElem?_getD, List.getD_eq_getElem?_getD, List.getElem?_map]
  cases h : l[i]? with
  | none => exact e.symm
  | some x => rfl
theorem turn_lt4 (goes stays : Nat) {l : List Nat} (h : ∀ s ∈ l, s < 4) : ∀ s ∈ turnL goes stays l, s < 4 := by
  intro s hs
  obtain ⟨x, hx, rfl⟩ := List.mem_map.1 hs
  have := h x hx
  unfold turn1
  split
  · decide
  · split
    · decide
    · exact this
theorem turn_step {goes stays k : Nat} {sk st : List Nat} (hsk : ∀ j, sk.getD j 0 = if j < k then turn1 goes stays (st.getD j 0) else st.getD j 0) (hk : k < sk.length) {v : Nat} (hv : v = turn1 goes stays (st.getD k 0)) :
    ∀ j, (sk.set k v).getD j 0 = if j < k + 1 then turn1 goes stays (st.getD j 0) else st.getD j 0 := by
  intro j
  rw [getD_set]
  by_cases hj : k = j
  · subst hj; rw [if_pos ⟨rfl, hk⟩, if_pos (Nat.lt_succ_self k)]; exact hv
  · rw [if_neg (fun e => hj e.1), hsk j]
    by_cases hjk : j < k
    · rw [if_pos hjk, if_pos (by omega)]
    · rw [if_neg hjk, if_neg (by omega)]
theorem turn_stay {goes stays k : Nat} {sk st : List Nat} (hsk : ∀ j, sk.getD j 0 = if j < k then turn1 goes stays (st.getD j 0) else st.getD j 0) (hv : st.getD k 0 = turn1 goes stays (st.getD k 0)) :
    ∀ j, sk.getD j 0 = if j < k + 1 then turn1 goes stays (st.getD j 0) else st.getD j 0 := by
  intro j
  rw [hsk j]
  by_cases hj : k = j
  · subst hj; rw [if_neg (Nat.lt_irrefl k), if_pos (Nat.lt_succ_self k)]; exact hv
  · by_cases hjk : j < k
    · rw [if_pos hjk, if_pos (by omega)]
    · rw [if_neg hjk, if_neg (by omega)]
/-- What Release answers, and leaves. -/
def relV (st : List Nat) (i : Int) : Int × List Nat :=
  if 0 ≤ i ∧ i < (st.length : Int) then (if st.getD i.toNat 0 = 2 then (0, st.set i.toNat 0) else if st.getD i.toNat 0 = 1 then (0, st.set i.toNat 3) else (7, st)) else (6, st)
section
variable {w0 w w' : World} {P D : Nat} {F F' : Nat → Prop} {r g I fr : Nat} {st : List Nat} {d : Dk}
theorem Pg.next (h : Pg w0 w P D F r g I fr st d) {st' : List Nat} (hb : Pb w0 w' P D F r g I fr st' (stB st') d) (hl : st'.length = st.length) (h4 : ∀ s ∈ st', s < 4) (hu : Upd (fun k => k = g ∨ k = I) w w') : PgS w0 w P D F r g I fr st' (fun x => x = d) w' :=
  ⟨F, d, ⟨hb, h.liv, by rw [hl]; exact h.room, h4⟩, rfl, ⟨hu.mono fun k _ hk => hk.elim (fun e => .inr (.inr (.inr (.inr e)))) (fun e => .inr (.inr (.inl e))), fun _ h => .inl h⟩⟩
set_option maxHeartbeats 2000000 in
theorem gRelease (h : Pg w0 w P D F r g I fr st d) (i : Int) :
    Calls Try.prog 11 #[.pointer (some ⟨P, 0, none⟩), .int .i64 i] w (fun en w' => en = .returned (.int .i64 (relV st i).1) ∧ PgS w0 w P D F r g I fr (relV st i).2 (fun x => x = d) w') := by
  have hm := Lib.hid (gMade h.pb)
  have ht := Lib.hid (fun w' (hu : Upd Non w w') => gThere (h.pb.non hu) i)
  have hn := h.pb.al.most
  have hh := Lib.hid h
  clear h
  unfold relV
  by_cases hi : 0 ≤ i ∧ i < (st.length : Int)
  · rw [if_pos hi]
    rw [decide_eq_true hi] at ht
    obtain ⟨h0, h1⟩ := hi
    obtain ⟨j, rfl⟩ := Int.eq_ofNat_of_zero_le h0
    rw [Int.toNat_natCast]
    have hj : Hid (j < st.length) := Lib.hid (by omega)
    have hd := Lib.hid (fun w' (hu : Upd Non w w') => gDrop (hh.out.pb.non hu) j hj.out)
    obtain ⟨a, ha⟩ : ∃ a, st.getD j 0 = a := ⟨_, rfl⟩
    rw [ha] at hd ⊢
    by_cases h2 : a = 2
    · subst h2
      rw [if_pos rfl]
      replace ha := Lib.hid ha
      go_enter Try.func11, Try.ntmps11
      go_wp2_with fail
      refine hm.out.mono ?_
      rintro en w1 ⟨rfl, hu⟩
      go_wp2_with fail
      refine (ht.out _ hu).mono ?_
      rintro en w2 ⟨rfl, hu2⟩
      replace hu := hu.trans hu2 fun _ _ h => h
      have hB := hh.out.pb.non hu
      obtain ⟨p0, p1, p2, p3⟩ := cells4 hB.cell
      obtain ⟨x0, f0⟩ := hB.at j hj.out
      rw [ha.out] at x0
      clear hu2 hB
      go_wp2_with fail
      refine (hd.out _ hu (by decide)).mono ?_
      rintro en w3 ⟨rfl, hb3, hu3⟩
      have hfin := Lib.hid (hh.out.next hb3 (List.length_set ..) (set_lt4 hh.out.s4 j 0 (by decide)) ((hu.mono fun _ _ h => h.elim).trans hu3 fun _ _ h => h))
      clear hb3 hu3 p0 p1 p2 p3 x0 f0
      go_wp2_with fail
      go_ret
      exact ⟨rfl, hfin.out⟩
    · rw [if_neg h2]
      have h2b : ((a : Int) == 2) = false := by simp; omega
      by_cases h1' : a = 1
      · subst h1'
        rw [if_pos rfl]
        replace ha := Lib.hid ha
        clear hd
        go_enter Try.func11, Try.ntmps11
        go_wp2_with fail
        refine hm.out.mono ?_
        rintro en w1 ⟨rfl, hu⟩
        go_wp2_with fail
        refine (ht.out _ hu).mono ?_
        rintro en w2 ⟨rfl, hu2⟩
        replace hu := hu.trans hu2 fun _ _ h => h
        have hB := hh.out.pb.non hu
        obtain ⟨p0, p1, p2, p3⟩ := cells4 hB.cell
        obtain ⟨x0, f0⟩ := hB.at j hj.out
        rw [ha.out] at x0
        have hb3 := hB.set j 3
        rw [← stB_keep hj.out (v := 3) (by rw [ha.out]; decide) (by decide)] at hb3
        have hfin := Lib.hid (hh.out.next hb3 (List.length_set ..) (set_lt4 hh.out.s4 j 3 (by decide)) ((hu.mono fun _ _ h => h.elim).trans (Pb.upd_set w2 I j (.int .i64 3)) fun _ _ h => .inr h))
        clear hu2 hB hb3
        go_wp2_with fail
        go_ret
        exact ⟨rfl, hfin.out⟩
      · rw [if_neg h1']
        have h1b : ((a : Int) == 1) = false := by simp; omega
        replace ha := Lib.hid ha
        clear hd
        go_enter Try.func11, Try.ntmps11
        go_wp2_with fail
        refine hm.out.mono ?_
        rintro en w1 ⟨rfl, hu⟩
        go_wp2_with fail
        refine (ht.out _ hu).mono ?_
        rintro en w2 ⟨rfl, hu2⟩
        replace hu := hu.trans hu2 fun _ _ h => h
        have hB := hh.out.pb.non hu
        obtain ⟨p0, p1, p2, p3⟩ := cells4 hB.cell
        obtain ⟨x0, f0⟩ := hB.at j hj.out
        rw [ha.out] at x0
        clear hu2 hB
        go_wp2_with fail
        go_ret
        exact ⟨rfl, hh.out.stay hu⟩
  · rw [if_neg hi]
    rw [decide_eq_false hi] at ht
    clear hi
    go_enter Try.func11, Try.ntmps11
    go_wp2_with fail
    refine hm.out.mono ?_
    rintro en w1 ⟨rfl, hu⟩
    go_wp2_with fail
    refine (ht.out _ hu).mono ?_
    rintro en w2 ⟨rfl, hu2⟩
    replace hu := hu.trans hu2 fun _ _ h => h
    go_wp2_with fail
    go_ret
    exact ⟨rfl, hh.out.stay hu⟩
set_option maxHeartbeats 2000000 in
theorem gTurn (h : Pg w0 w P D F r g I fr st d) (goes stays : Nat) (hg : goes ≠ 0) (hs : stays ≠ 0) :
    Calls Try.prog 32 #[.pointer (some ⟨P, 0, none⟩), .int .i64 (goes : Int), .int .i64 (stays : Int)] w (fun en w' => en = .returned (.int .i64 0) ∧ PgS w0 w P D F r g I fr (turnL goes stays st) (fun x => x = d) w') := by
  have hm := Lib.hid (gMade h.pb)
  have hn := h.pb.al.most
  have hh := Lib.hid h
  clear h
  go_enter Try.func32, Try.ntmps32
  go_wp2_with fail
  refine hm.out.mono ?_
  rintro en w1 ⟨rfl, hu⟩
  have hB := hh.out.pb.non hu
  have hU : Upd (fun k => k = g ∨ k = I) w w1 := hu.mono fun _ _ h => h.elim
  obtain ⟨p0, p1, p2, p3⟩ := cells4 hB.cell
  clear hu hm
  go_wp2_with fail
  go_loopw [17] (fun iv wr => ∃ (k : Nat) (sk : List Nat), iv = .int .i64 (k : Int) ∧ k ≤ st.length ∧ Hid (sk.length = st.length) ∧ Hid (∀ j, sk.getD j 0 = if j < k then turn1 goes stays (st.getD j 0) else st.getD j 0) ∧ Pb w0 wr P D F r g I fr sk (stB sk) d ∧ Upd (fun k => k = g ∨ k = I) w wr) (fun iv _ => st.length - (intOf iv).toNat)
  case atStart => exact ⟨0, st, rfl, Nat.zero_le _, Lib.hid rfl, Lib.hid (fun j => by rw [if_neg (by omega)]), hB, hU⟩
  case round =>
    clear hB hU p0 p1 p2 p3
    obtain ⟨k, sk, rfl, hk, hskl, hsk, hB, hU⟩ := hrel
    by_cases hlt : k < st.length
    · have hltI : (k : Int) < (st.length : Int) := by omega
      have hk0 : (0 : Int) ≤ (k : Int) := by omega
      have hkl : Hid (k < sk.length) := Lib.hid (by rw [hskl.out]; exact hlt)
      obtain ⟨x0, f0⟩ := hB.at k hkl.out
      have hd := Lib.hid (gDrop hB k hkl.out)
      have hak : Hid (sk.getD k 0 = st.getD k 0) := Lib.hid (by rw [hsk.out k, if_neg (by omega)])
      have hset := Lib.hid (hB.set k 1)
      have hkeep := Lib.hid (fun h => stB_keep (v := 1) hkl.out h (by decide))
      obtain ⟨a, ha⟩ : ∃ a, st.getD k 0 = a := ⟨_, rfl⟩
      rw [hak.out, ha] at x0 hd hkeep
      replace ha := Lib.hid ha
      by_cases h1 : a = goes
      · subst h1
        clear hset hkeep
        replace hB := Lib.hid hB
        go_wp2_with fail
        refine (hd.out hg).mono ?_
        rintro en w2 ⟨rfl, hnx, hu⟩
        have hux := hU.trans hu fun _ _ h => h
        clear hu x0 f0 hd
        go_wp2_with fail
        go_roundw
        case rel => exact ⟨k + 1, _, by go_num, by omega, Lib.hid (by first | exact hskl.out | (rw [List.length_set]; exact hskl.out)), Lib.hid ((turn_step hsk.out hkl.out (by rw [ha.out]; unfold turn1; rw [if_pos rfl]))), hnx, hux⟩
        case measure => simp [intOf]; omega
      · have h1b : ((a : Int) == (goes : Int)) = false := by simp; omega
        by_cases h2 : a = stays
        · subst h2
          obtain ⟨p0, p1, p2, p3⟩ := cells4 hB.cell
          rw [hskl.out] at p3
          have hnx := hset.out
          rw [← hkeep.out hs] at hnx
          have hux := hU.trans (Pb.upd_set wr I k (.int .i64 1)) fun _ _ h => .inr h
          replace hnx := Lib.hid hnx
          clear hset hkeep hB hd
          go_wp2_with fail
          replace hnx := hnx.out
          go_roundw
          case rel => exact ⟨k + 1, _, by go_num, by omega, Lib.hid (by first | exact hskl.out | (rw [List.length_set]; exact hskl.out)), Lib.hid ((turn_step hsk.out hkl.out (by rw [ha.out]; unfold turn1; rw [if_neg h1, if_pos rfl]))), hnx, hux⟩
          case measure => simp [intOf]; omega
        · have h2b : ((a : Int) == (stays : Int)) = false := by simp; omega
          have hnx := hB
          have hux := hU
          clear hset hkeep hd hB
          replace hnx := Lib.hid hnx
          go_wp2_with fail
          replace hnx := hnx.out
          go_roundw
          case rel => exact ⟨k + 1, _, by go_num, by omega, Lib.hid (by first | exact hskl.out | (rw [List.length_set]; exact hskl.out)), Lib.hid ((turn_stay hsk.out (by rw [ha.out]; unfold turn1; rw [if_neg h1, if_neg h2]))), hnx, hux⟩
          case measure => simp [intOf]; omega
    · have hltI : ¬ (k : Int) < (st.length : Int) := by omega
      have hkn : Hid (k = st.length) := Lib.hid (by omega)
      clear hk hlt
      go_wp2_with fail
      go_ret
      have e : sk = turnL goes stays st := getD_ext (by rw [hskl.out]; exact (List.length_map ..).symm) fun j => by
        rw [turn_getD goes stays hg hs, hsk.out j]
        by_cases hj : j < k
        · rw [if_pos hj]
        · rw [if_neg hj]
          have : st.getD j 0 = 0 := by rw [List.getD_eq_getElem?_getD, List.getElem?_eq_none (by have := hkn.out; omega)]; rfl
          rw [this]; unfold turn1; rw [if_neg (fun e => hg e.symm), if_neg (fun e => hs e.symm)]
      subst e
      exact ⟨rfl, hh.out.next hB hskl.out (turn_lt4 goes stays hh.out.s4) hU⟩
theorem gSettle (h : Pg w0 w P D F r g I fr st d) : Calls Try.prog 12 #[.pointer (some ⟨P, 0, none⟩)] w (fun en w' => en = .returned (.int .i64 0) ∧ PgS w0 w P D F r g I fr (turnL 3 2 st) (fun x => x = d) w') := by
  have ht := Lib.hid (gTurn h 3 2 (by decide) (by decide))
  clear h
  go_enter Try.func12, Try.ntmps12
  go_wp2_with fail
  refine ht.out.mono ?_
  rintro en w1 ⟨rfl, hp⟩
  replace hp := Lib.hid hp
  go_wp2_with fail
  go_ret
  exact ⟨rfl, hp.out⟩
theorem gUndo (h : Pg w0 w P D F r g I fr st d) : Calls Try.prog 13 #[.pointer (some ⟨P, 0, none⟩)] w (fun en w' => en = .returned (.int .i64 0) ∧ PgS w0 w P D F r g I fr (turnL 2 3 st) (fun x => x = d) w') := by
  have ht := Lib.hid (gTurn h 2 3 (by decide) (by decide))
  clear h
  go_enter Try.func13, Try.ntmps13
  go_wp2_with fail
  refine ht.out.mono ?_
  rintro en w1 ⟨rfl, hp⟩
  replace hp := Lib.hid hp
  go_wp2_with fail
  go_ret
  exact ⟨rfl, hp.out⟩
end
end Go.Proofs.Ytfjcjppfihafgaa
