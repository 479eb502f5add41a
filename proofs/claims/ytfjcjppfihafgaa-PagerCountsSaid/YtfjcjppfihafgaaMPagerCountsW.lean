/- The walk over PagerCounts. -/
import Derived.Test.YtfjcjppfihafgaaMPgT
namespace Go.Proofs.Ytfjcjppfihafgaa
open Go.RowKit Go.Amb Go.Shelf
set_option linter.unusedVariables false
set_option linter.unusedSimpArgs false
set_option maxRecDepth 100000
theorem Pg.beside {w0 w w' : World} {P D : Nat} {F S : Nat → Prop} {r g I fr : Nat} {st : List Nat} {d : Dk} (h : Pg w0 w P D F r g I fr st d) (hu : Upd S w w') (hS : ∀ k, S k → ¬ own F P I r g k) (hlo : ∀ k, S k → w0.heap.size ≤ k) : Pg w0 w' P D F r g I fr st d :=
  ⟨h.pb.beside hu hS hlo, h.liv, h.room, h.s4⟩
theorem tk_step {m tk : List Nat} {f : Nat → Nat} {i : Nat} (hs : m.Pairwise (· < ·)) (hi : i < m.length) (h : ∀ p, p < 8 → tk.getD p 0 = f p + if p ∈ m.take i then 1 else 0) (hq : m[i] < 8) (hl : tk.length = 8) :
    ∀ p, p < 8 → (tk.set m[i] (tk.getD m[i] 0 + 1)).getD p 0 = f p + if p ∈ m.take (i + 1) then 1 else 0 := by
  intro p hp
  have hn : m[i] ∉ m.take i := by
    intro hm
    obtain ⟨j, hj, e⟩ := List.getElem_of_mem hm
    rw [List.length_take] at hj
    rw [List.getElem_take] at e
    have := List.pairwise_iff_getElem.1 hs j i (by omega) hi (by omega)
    omega
  have ht : p ∈ m.take (i + 1) ↔ p ∈ m.take i ∨ p = m[i] := by
    rw [List.take_add_one, List.getElem?_eq_getElem hi, Option.toList_some, List.mem_append, List.mem_singleton]
  rw [getD_set]
  by_cases hpq : m[i] = p
  · rw [if_pos ⟨hpq, by omega⟩, if_pos (ht.2 (.inr hpq.symm)), h _ (by omega), ← hpq, if_neg hn]
  · rw [if_neg (fun e => hpq e.1), h p hp]
    congr 1
    by_cases hm : p ∈ m.take i
    · rw [if_pos hm, if_pos (ht.2 (.inl hm))]
    · rw [if_neg hm, if_neg (fun e => (ht.1 e).elim hm (fun e => hpq e.symm))]
theorem stC_at {w : World} {b : Nat} {st : List Nat} {t : TypeId} (h : w.heap[b]? = some (.cells (stC st) t (0, 0))) (i : Nat) (hi : i < st.length) : w.cell? ⟨b, i, none⟩ = some (.int .i64 ((st.getD i 0 : Nat) : Int)) ∧ w.frozen? ⟨b, i, none⟩ = false := by
  have hc := cells_of h
  refine ⟨?_, hc.2 i⟩
  rw [hc.1 i]
  unfold stC
  simp [hi]
theorem acs9_non {w w' : World} {v : Value} {l : List Ac9} (h : Acs9 w v l) (hu : Upd Non w w') : Acs9 w' v l := by
  obtain ⟨a, c, rfl, hm, hx⟩ := h.form
  refine ⟨a, c, rfl, hm, fun i hi => ?_⟩
  obtain ⟨hok, g, off, rfl, hc⟩ := hx i hi
  exact ⟨⟨hok.s, hok.has.non hu, fun h0 k hk => Nat.lt_of_lt_of_le (hok.old h0 k hk) hu.size⟩, g, off, rfl, fun j u hj => hu.cell (hc j u hj) fun h => h⟩
set_option maxHeartbeats 1000000 in
theorem counts9 (v1 v2 : Value) (l1 : List Ac9) (b : List UInt8) (w : World) (h1 : Acs9 w v1 l1) (h2 : Bytes w v2 b) (hbl : b.length ≤ 140737488355328) : Calls Try.prog 5 #[v1, v2] w (Ret (.bool true) w) := by
  have hlv := Lib.hid lives09
  have hBe := Lib.hid (lBegun9 v1 l1 w h1)
  have hF1 := Lib.hid (fun w' (hu : Upd Non w w') => lFew9 v1 l1 w' (acs9_non h1 hu))
  obtain ⟨a1, c1, rfl, -⟩ := h1.form
  obtain ⟨a2, c2, rfl⟩ := bytes_form h2
  have hBy := Lib.hid (fun w' (hu : Upd Non w w') => h2.upd hu fun _ _ h => h)
  have hmk : ∀ w, (Instr.makeSlice 23 (.int .i64 8) (.int .i64 8)).run Try.prog w = .ok (.slice (some ⟨w.heap.size, 0, none⟩) 8 8) (w.alloc (.cells (Array.replicate 8 (.int .i64 0)) 3)) := run_make1 Try.underlying23 info_int8.out rfl 8 (by omega) (by omega)
  clear h1 h2
  go_enter Try.func5, Try.ntmps5
  go_wp2_with fail
  refine hBe.out.mono ?_
  rintro en w1 ⟨P, D, r, g, I, F, st, d, rfl, hG, hl8, hP⟩
  replace hG := Lib.hid hG
  replace hl8 := Lib.hid hl8
  replace hP := Lib.hid hP
  clear hBe
  go_wp2_with fail
  refine (hF1.out _ hG.out.pb.lv.upd).mono ?_
  rintro en w2 ⟨b1, ⟨rfl, hb1⟩, hu⟩
  replace hG := Lib.hid (hG.out.non hu)
  clear hu hF1 hb1
  cases b1 with
  | false =>
    go_wp2_with fail
    refine (hlv.out _).mono ?_
    rintro en w9 ⟨rfl, hu⟩
    go_wp2_with fail
    go_ret
    exact ⟨rfl, (hG.out.pb.lv.upd).trans hu fun _ _ h => h⟩
  | true =>
    have cP := Lib.hid (gPages hG.out.pb)
    have hmm : Hid (∀ j, j < 3 → (∀ i (hi : i < (those (j + 1) 0 st).length), (those (j + 1) 0 st)[i] < 8) ∧ (those (j + 1) 0 st).Pairwise (· < ·) ∧ ∀ p, p < 8 → (p ∈ those (j + 1) 0 st ↔ st.getD p 0 = j + 1)) := Lib.hid (fun j hj => ⟨fun i hi => by
      have := (those_mem (j + 1) st 0 _).1 (List.getElem_mem hi)
      rw [hl8.out] at this
      omega, those_sorted _ _ _, fun p hp => by
      rw [those_mem, hl8.out, Nat.sub_zero]
      exact ⟨fun h => h.2.2, fun h => ⟨by omega, by omega, h⟩⟩⟩)
    obtain ⟨mm, hmE⟩ : ∃ mm : Nat → List Nat, mm = fun j => those (j + 1) 0 st := ⟨_, rfl⟩
    rw [show those 1 0 st = mm 0 by rw [hmE], show those 2 0 st = mm 1 by rw [hmE], show those 3 0 st = mm 2 by rw [hmE]] at cP
    replace hmm : Hid (∀ j, j < 3 → (∀ i (hi : i < (mm j).length), (mm j)[i] < 8) ∧ (mm j).Pairwise (· < ·) ∧ ∀ p, p < 8 → (p ∈ mm j ↔ st.getD p 0 = j + 1)) := Lib.hid (by rw [hmE]; exact hmm.out)
    clear hmE
    go_wp2_with fail
    refine cP.out.mono ?_
    rintro en w5 ⟨ax, cx, ay, cy, az, cz, rfl, nX, nY, nZ, hu, bX, bY, bZ⟩
    replace hG := Lib.hid (hG.out.non hu)
    have hT := heap_alloc2_old w5 (.cells (Array.replicate 8 (.int .i64 0)) 3) (.cells #[.slice ax (mm 0).length cx, .slice ay (mm 1).length cy, .slice az (mm 2).length cz] 23)
    have hS := heap_alloc2_new w5 (.cells (Array.replicate 8 (.int .i64 0)) 3) (.cells #[.slice ax (mm 0).length cx, .slice ay (mm 1).length cy, .slice az (mm 2).length cz] 23)
    have hU6 := (Upd.alloc Non w5 (.cells (Array.replicate 8 (.int .i64 0)) 3)).then_alloc (.cells #[.slice ax (mm 0).length cx, .slice ay (mm 1).length cy, .slice az (mm 2).length cz] 23)
    have hrow : ∃ (av : Nat → Option Addr) (cv : Nat → Nat), Hid (∀ j, j < 3 → ((w5.alloc (.cells (Array.replicate 8 (.int .i64 0)) 3)).alloc (.cells #[.slice ax (mm 0).length cx, .slice ay (mm 1).length cy, .slice az (mm 2).length cz] 23)).cell? ⟨w5.heap.size + 1, j, none⟩ = some (.slice (av j) (mm j).length (cv j)) ∧ Nats ((w5.alloc (.cells (Array.replicate 8 (.int .i64 0)) 3)).alloc (.cells #[.slice ax (mm 0).length cx, .slice ay (mm 1).length cy, .slice az (mm 2).length cz] 23)) (.slice (av j) (mm j).length (cv j)) (mm j) ∧ ∀ k, At (.slice (av j) (mm j).length (cv j)) k → k ≠ w5.heap.size) := by
      refine ⟨fun j => if j = 0 then ax else if j = 1 then ay else az, fun j => if j = 0 then cx else if j = 1 then cy else cz, Lib.hid fun j hj => ?_⟩
      match j, hj with
      | 0, _ => exact ⟨(cells_of hS).1 0, nX.non hU6, fun k hk e => by have := (bX k hk).2; omega⟩
      | 1, _ => exact ⟨(cells_of hS).1 1, nY.non hU6, fun k hk e => by have := (bY k hk).2; omega⟩
      | 2, _ => exact ⟨(cells_of hS).1 2, nZ.non hU6, fun k hk e => by have := (bZ k hk).2; omega⟩
    obtain ⟨av, cv, hrow⟩ := hrow
    have hG6 := Lib.hid (hG.out.non hU6)
    have hlo5 : Hid (w.heap.size ≤ w5.heap.size) := Lib.hid hG.out.pb.lv.upd.size
    have hTT : Hid (w5.heap.size ≠ w5.heap.size + 1) := Lib.hid (by omega)
    have hGT : Hid (∀ k, own F P I r g k → k ≠ w5.heap.size) := Lib.hid (fun k hO e => by have := hG.out.pb.own_lt k hO; omega)
    rw [show Array.replicate 8 (Value.int .i64 0) = stC (List.replicate 8 0) from stC_zero 8] at *
    generalize hw6 : ((w5.alloc (.cells (stC (List.replicate 8 0)) 3)).alloc (.cells #[.slice ax (mm 0).length cx, .slice ay (mm 1).length cy, .slice az (mm 2).length cz] 23)) = w6 at *
    clear nX nY nZ bX bY bZ hS hG
    replace hU6 := Lib.hid hU6
    replace hT := Lib.hid hT
    clear cP hu
    go_wp2_with fail
    rw [show ((w5.alloc (.cells (stC [0, 0, 0, 0, 0, 0, 0, 0]) 3)).alloc (.cells #[.slice ax (mm 0).length cx, .slice ay (mm 1).length cy, .slice az (mm 2).length cz] 23)) = w6 from hw6]
    clear hw6 hmk
    go_loopw [50] (fun jv wr => ∃ (j : Nat) (tk : List Nat), jv = .int .i64 (j : Int) ∧ j ≤ 3 ∧ Hid (tk.length = 8 ∧ ∀ p, p < 8 → tk.getD p 0 = cnt j (st.getD p 0)) ∧ wr.heap[w5.heap.size]? = some (.cells (stC tk) 3 (0, 0)) ∧ Upd (fun k => k = w5.heap.size) w6 wr) (fun jv _ => 3 - (intOf jv).toNat)
    case atStart => exact ⟨0, List.replicate 8 0, rfl, by omega, Lib.hid ⟨rfl, fun p hp => by
      rw [List.getD_eq_getElem?_getD, List.getElem?_replicate, if_pos hp]
      unfold cnt
      rw [if_neg (by omega)]; rfl⟩, hT.out, Upd.refl _ _⟩
    case round =>
      clear hT
      obtain ⟨j, tk, rfl, hj, htk, hT, hU⟩ := hrel
      by_cases hlt : j < 3
      · have hltI : (j : Int) < 3 := by omega
        have hj0 : (0 : Int) ≤ (j : Int) := by omega
        obtain ⟨s0, hN, hat⟩ := hrow.out j hlt
        have hjj : Hid (_ ∧ _ ∧ _) := Lib.hid (hmm.out j hlt)
        replace s0 := hU.cell s0 (fun e => hTT.out e.symm)
        obtain ⟨ml, hml⟩ : ∃ ml, mm j = ml := ⟨_, rfl⟩
        obtain ⟨aj, haj⟩ : ∃ aj, av j = aj := ⟨_, rfl⟩
        rw [hml] at s0 hN hat hjj
        rw [haj] at s0 hN hat
        obtain ⟨aj', cj', e', hmx, hNat⟩ := nats_at hN
        injection e' with e1 e2 e3
        subst e1
        unfold maxLen at hmx
        replace hNat := Lib.hid hNat
        replace hN := Lib.hid hN
        replace hat := Lib.hid hat
        clear hml haj e3
        go_wp2_with fail
        go_loopw [13] (fun iv wi => ∃ (i : Nat) (tk2 : List Nat), iv = .int .i64 (i : Int) ∧ i ≤ ml.length ∧ Hid (tk2.length = 8 ∧ ∀ p, p < 8 → tk2.getD p 0 = cnt j (st.getD p 0) + if p ∈ ml.take i then 1 else 0) ∧ wi.heap[w5.heap.size]? = some (.cells (stC tk2) 3 (0, 0)) ∧ Upd (fun k => k = w5.heap.size) w6 wi) (fun iv _ => ml.length - (intOf iv).toNat)
        case atStart => exact ⟨0, tk, rfl, Nat.zero_le _, Lib.hid ⟨htk.out.1, fun p hp => by rw [htk.out.2 p hp]; simp⟩, hT, hU⟩
        case round =>
          clear hT hU htk s0
          obtain ⟨i, tk2, rfl, hi, htk2, hT2, hU2⟩ := hrel
          by_cases hin : i < ml.length
          · have hinI : (i : Int) < (ml.length : Int) := by omega
            have hi0I : (0 : Int) ≤ (i : Int) := by omega
            obtain ⟨gq, oq, rfl, xq⟩ := hNat.out i hin
            have hgT : gq ≠ w5.heap.size := hat.out gq (by simp [At, Value.ownBlock])
            replace xq := hU2.cell xq hgT
            have hq8 := hjj.out.1 i hin
            have hstep := Lib.hid (tk_step (f := fun p => cnt j (st.getD p 0)) hjj.out.2.1 hin htk2.out.2 hq8 htk2.out.1)
            obtain ⟨t0, tf⟩ := stC_at hT2 ml[i] (by rw [htk2.out.1]; exact hq8)
            have hn2 : tk2.getD ml[i] 0 ≤ 2 := by
              rw [htk2.out.2 _ hq8]
              unfold cnt
              split <;> split <;> omega
            have hprev : Hid (∀ i1, i = i1 + 1 → ∃ q1 : Nat, q1 < ml[i] ∧ wr.cell? ⟨gq, oq + i1, none⟩ = wr.cell? ⟨gq, oq + i1, none⟩ ∧ w6.cell? ⟨gq, oq + i1, none⟩ = some (.int .i64 (q1 : Int))) := Lib.hid (fun i1 e => by
              subst e
              obtain ⟨g', o', e', x'⟩ := hNat.out i1 (by omega)
              injection e' with e'
              injection e' with e1 e2
              subst e1 e2
              exact ⟨ml[i1], List.pairwise_iff_getElem.1 hjj.out.2.1 i1 (i1 + 1) (by omega) hin (by omega), rfl, x'⟩)
            generalize ml[i] = q at *
            obtain ⟨n, hn⟩ : ∃ n, tk2.getD q 0 = n := ⟨_, rfl⟩
            rw [hn] at t0 hn2 hstep
            clear hn
            have hset := Lib.hid (fun (w' : World) (h : w'.heap[w5.heap.size]? = some (.cells (stC tk2) 3 (0, 0))) => by
              have h2 := set_blk (j := q) h (.int .i64 ((n : Int) + 1))
              rw [show ((n : Int) + 1) = ((n + 1 : Nat) : Int) from rfl, stC_set] at h2
              exact h2)
            have hnew : Hid ((tk2.set q (n + 1)).length = 8 ∧ ∀ p, p < 8 → (tk2.set q (n + 1)).getD p 0 = cnt j (st.getD p 0) + if p ∈ ml.take (i + 1) then 1 else 0) := Lib.hid ⟨(List.length_set ..).trans htk2.out.1, hstep.out⟩
            have d1 : decide ((q : Int) < 0) = false := decide_eq_false (by omega)
            have d2 : decide ((7 : Int) < (q : Int)) = false := decide_eq_false (by omega)
            have d5 : (0 : Int) ≤ (q : Int) := by omega
            have d6 : (q : Int) < 8 := by omega
            have d7 : IntKind.i64.wrap ((n : Int) + 1) = (n : Int) + 1 := IntWalk.i64_in _ ⟨by omega, by omega⟩
            have hsi := Lib.hid hi
            have hmx2 : ml.length ≤ 9223372036854775807 := by omega
            clear hstep hq8 hn2 hi
            by_cases hz : 0 < i
            · have d3 : decide ((0 : Int) < (i : Int)) = true := decide_eq_true (by omega)
              obtain ⟨i1, hi1⟩ : ∃ i1, i = i1 + 1 := ⟨i - 1, by omega⟩
              obtain ⟨q1, hq1, -, y1⟩ := hprev.out i1 hi1
              replace y1 := hU2.cell y1 hgT
              have d4 : decide ((q : Int) ≤ (q1 : Int)) = false := decide_eq_false (by omega)
              have d8 : IntKind.i64.wrap ((i : Int) - 1) = (i1 : Int) := by rw [IntWalk.i64_in _ ⟨by omega, by omega⟩]; omega
              have d9 : (i1 : Int) < (ml.length : Int) := by omega
              have d10 : (0 : Int) ≤ (i1 : Int) := by omega
              have d11 : (q ≤ q1) = False := eq_false (by omega)
              have d12 : (0 < i) = True := eq_true hz
              clear hprev hi1 hq1 hz
              go_wp2_with fail
              go_quiet (fail)
              go_wp2_with fail
              go_roundw
              case rel => exact ⟨i + 1, tk2.set q (n + 1), by go_num, by omega, hnew, hset.out _ hT2, (hU2.then_drewN nq).trans (Upd.setCell (S := fun k => k = w5.heap.size) _ (a := ⟨w5.heap.size, q, none⟩) rfl (.int .i64 ((n : Int) + 1))) fun _ _ e => e⟩
              case measure => simp [intOf]; omega
            · have d3 : decide ((0 : Int) < (i : Int)) = false := decide_eq_false (by omega)
              have d12 : (0 < i) = False := eq_false hz
              clear hprev hz
              go_wp2_with fail
              go_quiet (fail)
              go_wp2_with fail
              go_roundw
              case rel => exact ⟨i + 1, tk2.set q (n + 1), by go_num, by omega, hnew, hset.out _ hT2, (hU2.then_drewN nq).trans (Upd.setCell (S := fun k => k = w5.heap.size) _ (a := ⟨w5.heap.size, q, none⟩) rfl (.int .i64 ((n : Int) + 1))) fun _ _ e => e⟩
              case measure => simp [intOf]; omega
          · have hinI : ¬ (i : Int) < (ml.length : Int) := by omega
            have hnew : Hid (tk2.length = 8 ∧ ∀ p, p < 8 → tk2.getD p 0 = cnt (j + 1) (st.getD p 0)) := Lib.hid ⟨htk2.out.1, fun p hp => cnt_step _ _ _ (by
              rw [htk2.out.2 p hp, List.take_of_length_le (by omega)]
              congr 1
              by_cases hm : p ∈ ml
              · rw [if_pos hm, if_pos ((hjj.out.2.2 p hp).1 hm)]
              · rw [if_neg hm, if_neg (fun e => hm ((hjj.out.2.2 p hp).2 e))])⟩
            clear hi hin
            go_wp2_with fail
            go_roundw
            case rel => exact ⟨j + 1, tk2, by go_num, by omega, hnew, hT2, hU2⟩
            case measure => simp [intOf]; omega
      · have hltI : ¬ (j : Int) < 3 := by omega
        obtain rfl : j = 3 := by omega
        have h8 := hl8.out
        go_wp2_with fail
        go_loopw [14, 15, 16] (fun lv fv iv wi => ∃ (k : Nat), k ≤ 8 ∧ iv = .int .i64 ((k : Int) - 1) ∧ lv = .int .i64 (lst k (st.drop k)) ∧ fv = .int .i64 ((freeN (st.drop k) : Nat) : Int) ∧ wi.heap[w5.heap.size]? = some (.cells (stC tk) 3 (0, 0)) ∧ Upd (fun k => k = w5.heap.size) w6 wi) (fun _ _ iv _ => (intOf iv + 1).toNat)
        case atStart => exact ⟨8, by omega, rfl, by rw [List.drop_of_length_le (by omega)]; rfl, by rw [List.drop_of_length_le (by omega)]; rfl, hT, hU⟩
        case round =>
          clear hT hU hlt hltI
          obtain ⟨k, hk, rfl, rfl, rfl, hT, hU⟩ := hrel
          by_cases hk0 : 0 < k
          · obtain ⟨k1, rfl⟩ : ∃ k1, k = k1 + 1 := ⟨k - 1, by omega⟩
            rw [show (((k1 + 1 : Nat) : Int) - 1) = (k1 : Int) by omega]
            have hs4 := getD_lt4 hG6.out.s4 k1
            have hl1 := Lib.hid (lst_step k1 st (by omega))
            have hf1 := Lib.hid (free_step k1 st (by omega))
            obtain ⟨t0, -⟩ := stC_at hT k1 (by rw [htk.out.1]; omega)
            rw [htk.out.2 k1 (by omega)] at t0
            have hfb : freeN (st.drop (k1 + 1)) ≤ 8 := by
              unfold freeN
              exact Nat.le_trans (List.length_filter_le _ _) (by rw [List.length_drop]; omega)
            generalize st.getD k1 0 = s at *
            generalize freeN (st.drop (k1 + 1)) = f at *
            generalize lst (k1 + 1) (st.drop (k1 + 1)) = lv at *
            have d1 : (0 : Int) ≤ (k1 : Int) := by omega
            have d2 : (k1 : Int) < 8 := by omega
            have d3 : IntKind.i64.wrap ((k1 : Int) - 1) = (k1 : Int) - 1 := IntWalk.i64_in _ ⟨by omega, by omega⟩
            have d4 : IntKind.i64.wrap ((f : Int) + 1) = (f : Int) + 1 := IntWalk.i64_in _ ⟨by omega, by omega⟩
            obtain ⟨c, hc⟩ : ∃ c, cnt 3 s = c := ⟨_, rfl⟩
            rw [hc] at t0
            have hc1 : c ≤ 1 := by rw [← hc]; unfold cnt; split <;> omega
            have d5 : decide ((1 : Int) < (c : Int)) = false := decide_eq_false (by omega)
            have d6 : (1 < c) = False := eq_false (by omega)
            replace hc1 := Lib.hid hc1
            have hkk : Hid (k1 ≤ 8) := Lib.hid (by omega)
            by_cases h0 : s = 0
            · have d7 : ((c : Int) == 0) = true := by
                rw [← hc, h0]; rfl
              have e1 : Hid ((k1 : Int) = lst k1 (st.drop k1)) := Lib.hid (by rw [hl1.out, if_pos h0])
              have e2 : Hid ((f : Int) + 1 = ((freeN (st.drop k1) : Nat) : Int)) := Lib.hid (by rw [hf1.out, if_pos h0]; omega)
              clear hl1 hf1 hc h0 hs4 hk hk0
              go_wp2_with fail
              go_roundw
              case rel => exact ⟨k1, hkk.out, rfl, by rw [e1.out], by rw [e2.out], hT, hU⟩
              case measure => (simp [intOf]; try omega)
            · have d7 : ((c : Int) == 0) = false := by
                rw [← hc]
                unfold cnt
                rw [if_pos (by omega)]; rfl
              have e1 : Hid (lv = lst k1 (st.drop k1)) := Lib.hid (by rw [hl1.out, if_neg h0])
              have e2 : Hid ((f : Int) = ((freeN (st.drop k1) : Nat) : Int)) := Lib.hid (by rw [hf1.out, if_neg h0]; omega)
              clear hl1 hf1 hc h0 hs4 hk hk0
              go_wp2_with fail
              go_roundw
              case rel => exact ⟨k1, hkk.out, rfl, by rw [e1.out], by rw [e2.out], hT, hU⟩
              case measure => (simp [intOf]; try omega)
          · obtain rfl : k = 0 := by omega
            rw [show (((0 : Nat) : Int) - 1) = -1 from rfl, List.drop_zero]
            have hG7 := Lib.hid (hG6.out.beside hU (fun k hk hO => hGT.out k hO hk) (fun k hk => by rw [hk]; exact hlo5.out))
            have cF := Lib.hid (gFree hG7.out.pb)
            clear hk hk0 hT hU
            go_wp2_with fail
            refine cF.out.mono ?_
            rintro en w8 ⟨rfl, hu⟩
            have hG8 := Lib.hid (hG7.out.non hu)
            clear hu cF hG7
            have hBw := Lib.hid (hBy.out (w8.alloc (.cells #[] 5)) (hG8.out.pb.lv.upd.then_alloc _))
            have hi8 : Hid ((Try.prog.info? 5).map (fun i => (i.zero, i.size, i.bytes)) = some (some (.int .u8 0), 1, 1)) := Lib.hid (by kernel_rfl)
            obtain ⟨L, hL⟩ : ∃ L, lst 0 st = L := ⟨_, rfl⟩
            obtain ⟨fn, hfn⟩ : ∃ fn, freeN st = fn := ⟨_, rfl⟩
            rw [hL, hfn]
            replace hL := Lib.hid hL
            replace hfn := Lib.hid hfn
            go_wp2_with (at_builtin; go_must (refine wpList_app rfl _ _ 22 22 rfl w8.heap.size 5 (.int .u8 0) 1 1 Try.underlying22 hi8.out rfl _ 0 [] rfl (World.ownsRow_lit (size := 1) w8 #[] 0 (Nat.le_refl _) (Nat.zero_le _) rfl) _ b.length (bc b) rfl (Src.ofHas Try.underlying22 hBw.out (bc_one b)) (by unfold maxLen; omega) (by omega) (by simp) ?_))
            intro v9 w9 ho9 hu9 hf9
            have hU9 : Upd Non w8 w9 := (Upd.alloc Non w8 _).trans hu9 (fun j hj h => by simp [At, Value.ownBlock] at h; omega)
            have hB9 : Bytes w9 v9 b := by have := has_of_owns ho9; simpa using this
            have hv9 : ∀ q, At v9 q → ¬ own F P I r g q := fun q hq hO => by
              have h1 := own_ge ho9 hq
              have h2 := hG8.out.pb.own_lt q hO
              omega
            have hG9 := Lib.hid (hG8.out.non hU9)
            have cW := Lib.hid (gWrite hG9.out (by have := hP.out; omega) v9 b hB9 hv9)
            obtain ⟨a9, c9, rfl⟩ := bytes_form hB9
            clear ho9 hu9 hf9 hU9 hB9 hv9 hBw hi8 hG8
            have hbi : Hid (∀ w', Upd Non w w' → Bytes w' (.slice a2 b.length c2) b) := hBy
            by_cases hbig : 1024 < b.length
            · have hbI : decide ((1024 : Int) < (b.length : Int)) = true := decide_eq_true (by omega)
              have eW : wrV st b = (0, 5, st) := by unfold wrV; rw [if_pos hbig]
              rw [eW] at cW
              have d1 : (1024 < b.length) = True := eq_true hbig
              clear eW hbig
              go_wp2_with fail
              refine cW.out.mono ?_
              rintro en w10 ⟨rfl, F3, d3, h3, e3, k3⟩
              have cF := Lib.hid (gFree h3.pb)
              rw [hfn.out] at cF
              replace h3 := Lib.hid h3
              clear cW k3
              go_wp2_with fail
              refine cF.out.mono ?_
              rintro en w11 ⟨rfl, hu⟩
              have hU := h3.out.pb.lv.upd.trans hu fun _ _ h => h
              clear hu h3 cF
              go_wp2_with fail
              refine (hlv.out _).mono ?_
              rintro en w9 ⟨rfl, hu⟩
              go_wp2_with fail
              go_ret
              exact ⟨rfl, (hU).trans hu fun _ _ h => h⟩
            · have hbI : decide ((1024 : Int) < (b.length : Int)) = false := decide_eq_false (by omega)
              have d1 : (1024 < b.length) = False := eq_false hbig
              cases hf : frst st with
              | none =>
                have eW : wrV st b = (0, 10, st) := by unfold wrV; rw [if_neg hbig, hf]
                have eL : L = -1 := by rw [← hL.out]; exact lst_none hf
                subst eL
                rw [eW] at cW
                clear eW hbig hf
                go_wp2_with fail
                refine cW.out.mono ?_
                rintro en w10 ⟨rfl, F3, d3, h3, e3, k3⟩
                have cF := Lib.hid (gFree h3.pb)
                rw [hfn.out] at cF
                replace h3 := Lib.hid h3
                clear cW k3
                go_wp2_with fail
                refine cF.out.mono ?_
                rintro en w11 ⟨rfl, hu⟩
                have hU := h3.out.pb.lv.upd.trans hu fun _ _ h => h
                clear hu h3 cF
                go_wp2_with fail
                refine (hlv.out _).mono ?_
                rintro en w9 ⟨rfl, hu⟩
                go_wp2_with fail
                go_ret
                exact ⟨rfl, (hU).trans hu fun _ _ h => h⟩
              | some i =>
                obtain ⟨hi8, hi0, -⟩ := frst_some hf
                have eW : wrV st b = ((i : Int), 0, st.set i 2) := by unfold wrV; rw [if_neg hbig, hf]
                have eD : wrD 3 st b d = (overD (3 + i * 8) b 8 0 d).1 := by unfold wrD; rw [if_neg hbig, hf]
                have eL : L = (i : Int) := by rw [← hL.out]; exact lst_some hf
                subst eL
                have hfs := Lib.hid (free_set hi8 hi0)
                rw [eW, eD] at cW
                have hrd : Hid (∀ d', d' = (overD (3 + i * 8) b 8 0 d).1 → rdV 3 (st.set i 2) d' (i : Int) = (pad b, 0)) := Lib.hid (fun d' e => by
                  have hr := hG9.out.room
                  obtain ⟨v1, v2, -⟩ := over_facts (b := b) (base := 3 + i * 8) hG9.out.liv (by omega)
                  unfold rdV
                  have e2 : (st.set i 2).getD i 0 = 2 := by rw [getD_set, if_pos ⟨rfl, hi8⟩]
                  rw [if_pos (by rw [List.length_set]; omega), Int.toNat_natCast, e2, if_neg (by decide), e, read_pad v1 (by omega) (by omega) v2])
                have hiI : (0 : Int) ≤ (i : Int) := by omega
                have d2 : decide ((i : Int) < 0) = false := decide_eq_false (by omega)
                have hble : Hid (b.length ≤ 1024) := Lib.hid (by omega)
                replace hi8 := Lib.hid hi8
                replace hi0 := Lib.hid hi0
                clear eW eD hbig hf
                go_wp2_with fail
                refine cW.out.mono ?_
                rintro en w10 ⟨rfl, F3, d3, h3, e3, k3⟩
                have cR := Lib.hid (gRead h3 (by rw [e3]; have := over_P (3 + i * 8) b 8 0 d; have := hP.out; omega) (i : Int))
                rw [hrd.out d3 e3] at cR
                replace h3 := Lib.hid h3
                clear cW k3 e3 hrd
                go_wp2_with fail
                refine cR.out.mono ?_
                rintro en w11 ⟨a11, c11, rfl, hB11, hu, -⟩
                have h11 := Lib.hid (h3.out.non hu)
                have hb11 := Lib.hid (hBy.out w11 h11.out.pb.lv.upd)
                replace hB11 := Lib.hid hB11
                clear hu h3 cR
                obtain ⟨z, hz⟩ : ∃ z, 1024 - b.length = z := ⟨_, rfl⟩
                obtain ⟨lz, hlz⟩ : ∃ lz, List.replicate z (0 : UInt8) = lz := ⟨_, rfl⟩
                have hzI : IntKind.i64.wrap (1024 - (b.length : Int)) = (z : Int) := by rw [IntWalk.i64_in _ ⟨by omega, by omega⟩]; have := hble.out; omega
                have hmk := run_make1 Try.underlying22 (show (Try.prog.info? 5).map (fun i => (i.zero, i.size, i.bytes)) = some (some (.int .u8 0), 1, 1) by kernel_rfl) rfl z (by omega) (by omega)
                have hcat : (⟨b.toArray⟩ : ByteArray) ++ ⟨lz.toArray⟩ = ⟨(pad b).toArray⟩ := by
                  rw [ByteArray.mk_append_mk, ← hlz, ← hz]
                  simp [pad]
                obtain ⟨pp, hpp⟩ : ∃ pp, pad b = pp := ⟨_, rfl⟩
                rw [hpp] at hB11 hcat ⊢
                have hzb : Hid (∀ w' : World, Bytes (w'.alloc (.cells (Array.replicate z (.int .u8 0)) 5)) (.slice (some ⟨w'.heap.size, 0, none⟩) z z) lz) := Lib.hid (fun w' => by
                  have hn := has_new w' (bc lz) 5 1 z (by rw [bc_length, ← hlz]; simp) (by unfold maxLen; omega)
                  rw [show (bc lz).toArray = Array.replicate z (Value.int .u8 0) by rw [← hlz, bc_zero]; simp] at hn
                  unfold Bytes
                  rw [show lz.length = z by rw [← hlz]; simp]
                  exact hn)
                have hz0 : (0 : Int) ≤ (z : Int) := by omega
                have hcl : (9223372036854775807 < b.length + lz.length) = False := eq_false (by rw [← hlz, List.length_replicate]; have := hble.out; omega)
                replace hz := Lib.hid hz
                replace hlz := Lib.hid hlz
                replace hpp := Lib.hid hpp
                have hfn1 : Hid (freeN (st.set i 2) = fn - 1 ∧ 1 ≤ fn) := Lib.hid (by have h1 := hfs.out; have h2 := hfn.out; omega)
                obtain ⟨f2, hf2⟩ : ∃ f2, freeN (st.set i 2) = f2 := ⟨_, rfl⟩
                have cF := Lib.hid (fun w' (hu : Upd Non w11 w') => gFree (h11.out.pb.non hu))
                rw [hf2] at cF
                have hsub : IntKind.i64.wrap ((fn : Int) - 1) = (f2 : Int) := by
                  have h1 := hfn1.out
                  have h2 : fn ≤ 8 := by
                    rw [← hfn.out]
                    unfold freeN
                    exact Nat.le_trans (List.length_filter_le _ _) (by rw [hl8.out]; omega)
                  rw [IntWalk.i64_in _ ⟨by omega, by omega⟩]
                  omega
                replace hf2 := Lib.hid hf2
                go_wp2_with fail
                refine wp_region_held_drew (S := (fun w' => Bytes w' (.slice a11 pp.length c11) pp ∧ Bytes w' (.slice a2 b.length c2) b)) (by kernel_rfl) (by exact ⟨hB11.out.upd (Upd.drew Non w11) fun _ _ h => h, hb11.out.upd (Upd.drew Non w11) fun _ _ h => h⟩) (fun hHeld => ?_)
                (refine wpAnyH_take (i := 0) (oi := ?oi_c1) (v := ?v_c1) ?ho_c1 ?hs_c1 ?hf_c1 ?hr_c1 ?hQ_c1 ?hy_c1 ?hS_c1 ?rest_c1; (case hr_c1 => kernel_rfl); (case hf_c1 => kernel_rfl); (case hs_c1 => kernel_rfl); (case ho_c1 => (simp only [List.getElem?_toArray, List.getElem?_cons_succ, List.getElem?_cons_zero]; rfl)); (case hS_c1 => assumption); (case hQ_c1 => exact fun _ _ _ h => h); (case hy_c1 => (refine Or.inl ⟨by rfl, ?_⟩; (intro w hSw; obtain ⟨s1, s2⟩ := hSw; have k1 := run_str (P := Try.prog) _ 22 9 5 Try.underlying22 Try.underlying5 Try.underlying9 _ _ s1; have k2 := run_str (P := Try.prog) _ 22 9 5 Try.underlying22 Try.underlying5 Try.underlying9 _ _ s2; go_simp) <;> with_reducible rfl)); (try simp only [Act.put, List.setIfInBounds_toArray, List.set_cons_zero, List.set_cons_succ]))
                (refine wpAnyH_take (i := 1) (oi := ?oi_c2) (v := ?v_c2) ?ho_c2 ?hs_c2 ?hf_c2 ?hr_c2 ?hQ_c2 ?hy_c2 ?hS_c2 ?rest_c2; (case hr_c2 => kernel_rfl); (case hf_c2 => kernel_rfl); (case hs_c2 => kernel_rfl); (case ho_c2 => (simp only [List.getElem?_toArray, List.getElem?_cons_succ, List.getElem?_cons_zero]; rfl)); (case hS_c2 => assumption); (case hQ_c2 => exact fun _ _ _ h => h); (case hy_c2 => (refine Or.inl ⟨by rfl, ?_⟩; (intro w hSw; obtain ⟨s1, s2⟩ := hSw; have k1 := run_str (P := Try.prog) _ 22 9 5 Try.underlying22 Try.underlying5 Try.underlying9 _ _ s1; have k2 := run_str (P := Try.prog) _ 22 9 5 Try.underlying22 Try.underlying5 Try.underlying9 _ _ s2; go_simp) <;> with_reducible rfl)); (try simp only [Act.put, List.setIfInBounds_toArray, List.set_cons_zero, List.set_cons_succ]))
                (refine wpAnyH_take (i := 2) (oi := ?oi_c3) (v := ?v_c3) ?ho_c3 ?hs_c3 ?hf_c3 ?hr_c3 ?hQ_c3 ?hy_c3 ?hS_c3 ?rest_c3; (case hr_c3 => kernel_rfl); (case hf_c3 => kernel_rfl); (case hs_c3 => kernel_rfl); (case ho_c3 => (simp only [List.getElem?_toArray, List.getElem?_cons_succ, List.getElem?_cons_zero]; rfl)); (case hS_c3 => assumption); (case hQ_c3 => exact fun _ _ _ h => h); (case hy_c3 => (refine Or.inl ⟨by rfl, ?_⟩; (intro w hSw; obtain ⟨s1, s2⟩ := hSw; have k1 := run_str (P := Try.prog) _ 22 9 5 Try.underlying22 Try.underlying5 Try.underlying9 _ _ s1; have k2 := run_str (P := Try.prog) _ 22 9 5 Try.underlying22 Try.underlying5 Try.underlying9 _ _ s2; go_simp) <;> with_reducible rfl)); (try simp only [Act.put, List.setIfInBounds_toArray, List.set_cons_zero, List.set_cons_succ]))
                (refine wpAnyH_take (i := 3) (oi := ?oi_c4) (v := ?v_c4) ?ho_c4 ?hs_c4 ?hf_c4 ?hr_c4 ?hQ_c4 ?hy_c4 ?hS_c4 ?rest_c4; (case hr_c4 => kernel_rfl); (case hf_c4 => kernel_rfl); (case hs_c4 => kernel_rfl); (case ho_c4 => (simp only [List.getElem?_toArray, List.getElem?_cons_succ, List.getElem?_cons_zero]; rfl)); (case hS_c4 => assumption); (case hQ_c4 => exact fun _ _ _ h => h); (case hy_c4 => (refine Or.inl ⟨by rfl, ?_⟩; (intro w hSw; obtain ⟨s1, s2⟩ := hSw; have k1 := run_str (P := Try.prog) _ 22 9 5 Try.underlying22 Try.underlying5 Try.underlying9 _ _ s1; have k2 := run_str (P := Try.prog) _ 22 9 5 Try.underlying22 Try.underlying5 Try.underlying9 _ _ s2; go_simp) <;> with_reducible rfl)); (try simp only [Act.put, List.setIfInBounds_toArray, List.set_cons_zero, List.set_cons_succ]))
                (refine wpAnyH_take (i := 4) (oi := ?oi_c5) (v := ?v_c5) ?ho_c5 ?hs_c5 ?hf_c5 ?hr_c5 ?hQ_c5 ?hy_c5 ?hS_c5 ?rest_c5; (case hr_c5 => kernel_rfl); (case hf_c5 => kernel_rfl); (case hs_c5 => kernel_rfl); (case ho_c5 => (simp only [List.getElem?_toArray, List.getElem?_cons_succ, List.getElem?_cons_zero]; rfl)); (case hS_c5 => assumption); (case hQ_c5 => exact fun _ _ _ h => h); (case hy_c5 => (refine Or.inl ⟨by rfl, ?_⟩; (intro w hSw; obtain ⟨s1, s2⟩ := hSw; have k1 := run_str (P := Try.prog) _ 22 9 5 Try.underlying22 Try.underlying5 Try.underlying9 _ _ s1; have k2 := run_str (P := Try.prog) _ 22 9 5 Try.underlying22 Try.underlying5 Try.underlying9 _ _ s2; go_simp) <;> with_reducible rfl)); (try simp only [Act.put, List.setIfInBounds_toArray, List.set_cons_zero, List.set_cons_succ]))
                (refine wpAnyH_take (i := 5) (oi := ?oi_c6) (v := ?v_c6) ?ho_c6 ?hs_c6 ?hf_c6 ?hr_c6 ?hQ_c6 ?hy_c6 ?hS_c6 ?rest_c6; (case hr_c6 => kernel_rfl); (case hf_c6 => kernel_rfl); (case hs_c6 => kernel_rfl); (case ho_c6 => (simp only [List.getElem?_toArray, List.getElem?_cons_succ, List.getElem?_cons_zero]; rfl)); (case hS_c6 => assumption); (case hQ_c6 => exact fun _ _ _ h => h); (case hy_c6 => (refine Or.inl ⟨by rfl, ?_⟩; (intro w hSw; obtain ⟨s1, s2⟩ := hSw; have k1 := run_str (P := Try.prog) _ 22 9 5 Try.underlying22 Try.underlying5 Try.underlying9 _ _ s1; have k2 := run_str (P := Try.prog) _ 22 9 5 Try.underlying22 Try.underlying5 Try.underlying9 _ _ s2; go_simp) <;> with_reducible rfl)); (try simp only [Act.put, List.setIfInBounds_toArray, List.set_cons_zero, List.set_cons_succ]))
                (refine wpAnyH_take (i := 6) (oi := ?oi_c7) (v := ?v_c7) ?ho_c7 ?hs_c7 ?hf_c7 ?hr_c7 ?hQ_c7 ?hy_c7 ?hS_c7 ?rest_c7; (case hr_c7 => kernel_rfl); (case hf_c7 => kernel_rfl); (case hs_c7 => kernel_rfl); (case ho_c7 => (simp only [List.getElem?_toArray, List.getElem?_cons_succ, List.getElem?_cons_zero]; rfl)); (case hS_c7 => assumption); (case hQ_c7 => exact fun _ _ _ h => h); (case hy_c7 => (refine Or.inl ⟨by rfl, ?_⟩; (intro w hSw; obtain ⟨s1, s2⟩ := hSw; have k1 := run_str (P := Try.prog) _ 22 9 5 Try.underlying22 Try.underlying5 Try.underlying9 _ _ s1; have k2 := run_str (P := Try.prog) _ 22 9 5 Try.underlying22 Try.underlying5 Try.underlying9 _ _ s2; go_simp) <;> with_reducible rfl)); (try simp only [Act.put, List.setIfInBounds_toArray, List.set_cons_zero, List.set_cons_succ]))
                (refine wpAnyH_take (i := 7) (oi := ?oi_c8) (v := ?v_c8) ?ho_c8 ?hs_c8 ?hf_c8 ?hr_c8 ?hQ_c8 ?hy_c8 ?hS_c8 ?rest_c8; (case hr_c8 => kernel_rfl); (case hf_c8 => kernel_rfl); (case hs_c8 => kernel_rfl); (case ho_c8 => (simp only [List.getElem?_toArray, List.getElem?_cons_succ, List.getElem?_cons_zero]; rfl)); (case hS_c8 => assumption); (case hQ_c8 => exact fun _ _ _ h => h); (case hy_c8 => (refine Or.inl ⟨by rfl, ?_⟩; (intro w hSw; obtain ⟨s1, s2⟩ := hSw; have k1 := run_str (P := Try.prog) _ 22 9 5 Try.underlying22 Try.underlying5 Try.underlying9 _ _ s1; have k2 := run_str (P := Try.prog) _ 22 9 5 Try.underlying22 Try.underlying5 Try.underlying9 _ _ s2; go_simp) <;> with_reducible rfl)); (try simp only [Act.put, List.setIfInBounds_toArray, List.set_cons_zero, List.set_cons_succ]))
                (refine wpAnyH_take (i := 8) (oi := ?oi_c9) (v := ?v_c9) ?ho_c9 ?hs_c9 ?hf_c9 ?hr_c9 ?hQ_c9 ?hy_c9 ?hS_c9 ?rest_c9; (case hr_c9 => kernel_rfl); (case hf_c9 => kernel_rfl); (case hs_c9 => kernel_rfl); (case ho_c9 => (simp only [List.getElem?_toArray, List.getElem?_cons_succ, List.getElem?_cons_zero]; rfl)); (case hS_c9 => assumption); (case hQ_c9 => exact fun _ _ _ h => h); (case hy_c9 => (refine Or.inl ⟨by rfl, ?_⟩; (intro w hSw; obtain ⟨s1, s2⟩ := hSw; have k1 := run_str (P := Try.prog) _ 22 9 5 Try.underlying22 Try.underlying5 Try.underlying9 _ _ s1; have k2 := run_str (P := Try.prog) _ 22 9 5 Try.underlying22 Try.underlying5 Try.underlying9 _ _ s2; go_simp) <;> with_reducible rfl)); (try simp only [Act.put, List.setIfInBounds_toArray, List.set_cons_zero, List.set_cons_succ]))
                (refine wpAnyH_take (i := 9) (oi := ?oi_c10) (v := ?v_c10) ?ho_c10 ?hs_c10 ?hf_c10 ?hr_c10 ?hQ_c10 ?hy_c10 ?hS_c10 ?rest_c10; (case hr_c10 => kernel_rfl); (case hf_c10 => kernel_rfl); (case hs_c10 => kernel_rfl); (case ho_c10 => (simp only [List.getElem?_toArray, List.getElem?_cons_succ, List.getElem?_cons_zero]; rfl)); (case hS_c10 => assumption); (case hQ_c10 => exact fun _ _ _ h => h); (case hy_c10 => (refine Or.inl ⟨by rfl, ?_⟩; (intro w hSw; obtain ⟨s1, s2⟩ := hSw; have k1 := run_str (P := Try.prog) _ 22 9 5 Try.underlying22 Try.underlying5 Try.underlying9 _ _ s1; have k2 := run_str (P := Try.prog) _ 22 9 5 Try.underlying22 Try.underlying5 Try.underlying9 _ _ s2; go_simp) <;> with_reducible rfl)); (try simp only [Act.put, List.setIfInBounds_toArray, List.set_cons_zero, List.set_cons_succ]))
                (refine wpAnyH_take (i := 10) (oi := ?oi_c11) (v := ?v_c11) ?ho_c11 ?hs_c11 ?hf_c11 ?hr_c11 ?hQ_c11 ?hy_c11 ?hS_c11 ?rest_c11; (case hr_c11 => kernel_rfl); (case hf_c11 => kernel_rfl); (case hs_c11 => kernel_rfl); (case ho_c11 => (simp only [List.getElem?_toArray, List.getElem?_cons_succ, List.getElem?_cons_zero]; rfl)); (case hS_c11 => assumption); (case hQ_c11 => exact fun _ _ _ h => h); (case hy_c11 => (refine Or.inl ⟨by rfl, ?_⟩; (intro w hSw; obtain ⟨s1, s2⟩ := hSw; have k1 := run_str (P := Try.prog) _ 22 9 5 Try.underlying22 Try.underlying5 Try.underlying9 _ _ s1; have k2 := run_str (P := Try.prog) _ 22 9 5 Try.underlying22 Try.underlying5 Try.underlying9 _ _ s2; go_simp) <;> with_reducible rfl)); (try simp only [Act.put, List.setIfInBounds_toArray, List.set_cons_zero, List.set_cons_succ]))
                (refine wpAnyH_take (i := 11) (oi := ?oi_c12) (v := ?v_c12) ?ho_c12 ?hs_c12 ?hf_c12 ?hr_c12 ?hQ_c12 ?hy_c12 ?hS_c12 ?rest_c12; (case hr_c12 => kernel_rfl); (case hf_c12 => kernel_rfl); (case hs_c12 => kernel_rfl); (case ho_c12 => (simp only [List.getElem?_toArray, List.getElem?_cons_succ, List.getElem?_cons_zero]; rfl)); (case hS_c12 => assumption); (case hQ_c12 => exact fun _ _ _ h => h); (case hy_c12 => (refine Or.inl ⟨by rfl, ?_⟩; (intro w hSw; obtain ⟨s1, s2⟩ := hSw; have k1 := run_str (P := Try.prog) _ 22 9 5 Try.underlying22 Try.underlying5 Try.underlying9 _ _ s1; have k2 := run_str (P := Try.prog) _ 22 9 5 Try.underlying22 Try.underlying5 Try.underlying9 _ _ s2; go_simp) <;> with_reducible rfl)); (try simp only [Act.put, List.setIfInBounds_toArray, List.set_cons_zero, List.set_cons_succ]))
                (refine wpAnyH_take (i := 12) (oi := ?oi_c13) (v := ?v_c13) ?ho_c13 ?hs_c13 ?hf_c13 ?hr_c13 ?hQ_c13 ?hy_c13 ?hS_c13 ?rest_c13; (case hr_c13 => kernel_rfl); (case hf_c13 => kernel_rfl); (case hs_c13 => kernel_rfl); (case ho_c13 => (simp only [List.getElem?_toArray, List.getElem?_cons_succ, List.getElem?_cons_zero]; rfl)); (case hS_c13 => assumption); (case hQ_c13 => exact fun _ _ _ h => h); (case hy_c13 => (refine Or.inl ⟨by rfl, ?_⟩; (intro w hSw; obtain ⟨s1, s2⟩ := hSw; have k1 := run_str (P := Try.prog) _ 22 9 5 Try.underlying22 Try.underlying5 Try.underlying9 _ _ s1; have k2 := run_str (P := Try.prog) _ 22 9 5 Try.underlying22 Try.underlying5 Try.underlying9 _ _ s2; go_simp) <;> with_reducible rfl)); (try simp only [Act.put, List.setIfInBounds_toArray, List.set_cons_zero, List.set_cons_succ]))
                (refine wpAnyH_take (i := 13) (oi := ?oi_c14) (v := ?v_c14) ?ho_c14 ?hs_c14 ?hf_c14 ?hr_c14 ?hQ_c14 ?hy_c14 ?hS_c14 ?rest_c14; (case hr_c14 => kernel_rfl); (case hf_c14 => kernel_rfl); (case hs_c14 => kernel_rfl); (case ho_c14 => (simp only [List.getElem?_toArray, List.getElem?_cons_succ, List.getElem?_cons_zero]; rfl)); (case hS_c14 => assumption); (case hQ_c14 => exact fun _ _ _ h => h); (case hy_c14 => (refine Or.inl ⟨by rfl, ?_⟩; (intro w hSw; obtain ⟨s1, s2⟩ := hSw; have k1 := run_str (P := Try.prog) _ 22 9 5 Try.underlying22 Try.underlying5 Try.underlying9 _ _ s1; have k2 := run_str (P := Try.prog) _ 22 9 5 Try.underlying22 Try.underlying5 Try.underlying9 _ _ s2; go_simp) <;> with_reducible rfl)); (try simp only [Act.put, List.setIfInBounds_toArray, List.set_cons_zero, List.set_cons_succ]))
                (refine wpAnyH_take (i := 14) (oi := ?oi_c15) (v := ?v_c15) ?ho_c15 ?hs_c15 ?hf_c15 ?hr_c15 ?hQ_c15 ?hy_c15 ?hS_c15 ?rest_c15; (case hr_c15 => kernel_rfl); (case hf_c15 => kernel_rfl); (case hs_c15 => kernel_rfl); (case ho_c15 => (simp only [List.getElem?_toArray, List.getElem?_cons_succ, List.getElem?_cons_zero]; rfl)); (case hS_c15 => assumption); (case hQ_c15 => exact fun _ _ _ h => h); (case hy_c15 => (refine Or.inl ⟨by rfl, ?_⟩; (intro w hSw; obtain ⟨s1, s2⟩ := hSw; have k1 := run_str (P := Try.prog) _ 22 9 5 Try.underlying22 Try.underlying5 Try.underlying9 _ _ s1; have k2 := run_str (P := Try.prog) _ 22 9 5 Try.underlying22 Try.underlying5 Try.underlying9 _ _ s2; go_simp) <;> with_reducible rfl)); (try simp only [Act.put, List.setIfInBounds_toArray, List.set_cons_zero, List.set_cons_succ]))
                (refine wpAnyH_take (i := 15) (oi := ?oi_c16) (v := ?v_c16) ?ho_c16 ?hs_c16 ?hf_c16 ?hr_c16 ?hQ_c16 ?hy_c16 ?hS_c16 ?rest_c16; (case hr_c16 => kernel_rfl); (case hf_c16 => kernel_rfl); (case hs_c16 => kernel_rfl); (case ho_c16 => (simp only [List.getElem?_toArray, List.getElem?_cons_succ, List.getElem?_cons_zero]; rfl)); (case hS_c16 => assumption); (case hQ_c16 => exact fun _ _ _ h => h); (case hy_c16 => (refine Or.inl ⟨by rfl, ?_⟩; (intro w hSw; obtain ⟨s1, s2⟩ := hSw; have k1 := run_str (P := Try.prog) _ 22 9 5 Try.underlying22 Try.underlying5 Try.underlying9 _ _ s1; have k2 := run_str (P := Try.prog) _ 22 9 5 Try.underlying22 Try.underlying5 Try.underlying9 _ _ s2; go_simp) <;> with_reducible rfl)); (try simp only [Act.put, List.setIfInBounds_toArray, List.set_cons_zero, List.set_cons_succ]))
                (refine wpAnyH_take (i := 16) (oi := ?oi_c17) (v := ?v_c17) ?ho_c17 ?hs_c17 ?hf_c17 ?hr_c17 ?hQ_c17 ?hy_c17 ?hS_c17 ?rest_c17; (case hr_c17 => kernel_rfl); (case hf_c17 => kernel_rfl); (case hs_c17 => kernel_rfl); (case ho_c17 => (simp only [List.getElem?_toArray, List.getElem?_cons_succ, List.getElem?_cons_zero]; rfl)); (case hS_c17 => assumption); (case hQ_c17 => exact fun _ _ _ h => h); (case hy_c17 => (refine Or.inl ⟨by rfl, ?_⟩; (intro w hSw; obtain ⟨s1, s2⟩ := hSw; have k1 := run_str (P := Try.prog) _ 22 9 5 Try.underlying22 Try.underlying5 Try.underlying9 _ _ s1; have k2 := run_str (P := Try.prog) _ 22 9 5 Try.underlying22 Try.underlying5 Try.underlying9 _ _ s2; go_simp) <;> with_reducible rfl)); (try simp only [Act.put, List.setIfInBounds_toArray, List.set_cons_zero, List.set_cons_succ]))
                (refine wpAnyH_take (i := 17) (oi := ?oi_c18) (v := ?v_c18) ?ho_c18 ?hs_c18 ?hf_c18 ?hr_c18 ?hQ_c18 ?hy_c18 ?hS_c18 ?rest_c18; (case hr_c18 => kernel_rfl); (case hf_c18 => kernel_rfl); (case hs_c18 => kernel_rfl); (case ho_c18 => (simp only [List.getElem?_toArray, List.getElem?_cons_succ, List.getElem?_cons_zero]; rfl)); (case hS_c18 => assumption); (case hQ_c18 => exact fun _ _ _ h => h); (case hy_c18 => (refine Or.inl ⟨by rfl, ?_⟩; (intro w hSw; obtain ⟨s1, s2⟩ := hSw; have k1 := run_str (P := Try.prog) _ 22 9 5 Try.underlying22 Try.underlying5 Try.underlying9 _ _ s1; have k2 := run_str (P := Try.prog) _ 22 9 5 Try.underlying22 Try.underlying5 Try.underlying9 _ _ s2; go_simp) <;> with_reducible rfl)); (try simp only [Act.put, List.setIfInBounds_toArray, List.set_cons_zero, List.set_cons_succ]))
                (refine wpAnyH_take (i := 18) (oi := ?oi_c19) (v := ?v_c19) ?ho_c19 ?hs_c19 ?hf_c19 ?hr_c19 ?hQ_c19 ?hy_c19 ?hS_c19 ?rest_c19; (case hr_c19 => kernel_rfl); (case hf_c19 => kernel_rfl); (case hs_c19 => kernel_rfl); (case ho_c19 => (simp only [List.getElem?_toArray, List.getElem?_cons_succ, List.getElem?_cons_zero]; rfl)); (case hS_c19 => assumption); (case hQ_c19 => exact fun _ _ _ h => h); (case hy_c19 => (refine Or.inl ⟨by rfl, ?_⟩; (intro w hSw; obtain ⟨s1, s2⟩ := hSw; have k1 := run_str (P := Try.prog) _ 22 9 5 Try.underlying22 Try.underlying5 Try.underlying9 _ _ s1; have k2 := run_str (P := Try.prog) _ 22 9 5 Try.underlying22 Try.underlying5 Try.underlying9 _ _ s2; go_simp) <;> with_reducible rfl)); (try simp only [Act.put, List.setIfInBounds_toArray, List.set_cons_zero, List.set_cons_succ]))
                refine wpAnyH_ready (rs := [19]) (by kernel_rfl) (by simp) ?_
                refine (AllReadyH.cons (o := ?ooc20_0) ?hoc20_0 ?hsc20_0 AllReadyH.nil)
                case hoc20_0 => (simp only [List.getElem?_toArray, List.getElem?_cons_succ, List.getElem?_cons_zero]; rfl)
                case hsc20_0 =>
                  intro K hK
                  have hmk' := hmk w11.drew
                  go_simp
                  have hA12 := (Upd.drew Non w11).then_alloc (.cells (Array.replicate z (.int .u8 0)) 5)
                  have hz12 := run_str (P := Try.prog) _ 22 9 5 Try.underlying22 Try.underlying5 Try.underlying9 _ _ ((hzb.out w11).upd (Upd.drew Non (w11.alloc (.cells (Array.replicate z (.int .u8 0)) 5))) fun _ _ h => h)
                  have hk1 := hB11.out.upd hA12 fun _ _ h => h
                  have hk2 := hb11.out.upd hA12 fun _ _ h => h
                  try go_wp2_with fail
                  refine hK.out _ _ (by exact ⟨hk1, hk2⟩) (fun hHeld => ?_)
                  clear hK K hmk'
                  try simp only [Act.put, List.setIfInBounds_toArray, List.set_cons_zero, List.set_cons_succ]
                  refine wpAnyH_ready (rs := [20]) (by kernel_rfl) (by simp) ?_
                  refine (AllReadyH.cons (o := ?ooc21_0) ?hoc21_0 ?hsc21_0 AllReadyH.nil)
                  case hoc21_0 => (simp only [List.getElem?_toArray, List.getElem?_cons_succ, List.getElem?_cons_zero]; rfl)
                  case hsc21_0 =>
                    intro K hK
                    go_simp
                    try go_wp2_with fail
                    refine hK.out _ _ (by exact ⟨hk1, hk2⟩) (fun hHeld => ?_)
                    clear hK K
                    try simp only [Act.put, List.setIfInBounds_toArray, List.set_cons_zero, List.set_cons_succ]
                    (refine wpAnyH_take (i := 21) (oi := ?oi_c22) (v := ?v_c22) ?ho_c22 ?hs_c22 ?hf_c22 ?hr_c22 ?hQ_c22 ?hy_c22 ?hS_c22 ?rest_c22; (case hr_c22 => kernel_rfl); (case hf_c22 => kernel_rfl); (case hs_c22 => kernel_rfl); (case ho_c22 => (simp only [List.getElem?_toArray, List.getElem?_cons_succ, List.getElem?_cons_zero]; rfl)); (case hS_c22 => assumption); (case hQ_c22 => exact fun _ _ _ h => h); (case hy_c22 => (refine Or.inl ⟨by rfl, ?_⟩; (intro w hSw; skip; go_simp) <;> with_reducible rfl)); (try simp only [Act.put, List.setIfInBounds_toArray, List.set_cons_zero, List.set_cons_succ]))
                    (refine wpAnyH_take (i := 22) (oi := ?oi_c23) (v := ?v_c23) ?ho_c23 ?hs_c23 ?hf_c23 ?hr_c23 ?hQ_c23 ?hy_c23 ?hS_c23 ?rest_c23; (case hr_c23 => kernel_rfl); (case hf_c23 => kernel_rfl); (case hs_c23 => kernel_rfl); (case ho_c23 => (simp only [List.getElem?_toArray, List.getElem?_cons_succ, List.getElem?_cons_zero]; rfl)); (case hS_c23 => assumption); (case hQ_c23 => exact fun _ _ _ h => h); (case hy_c23 => (refine Or.inl ⟨by rfl, ?_⟩; (intro w hSw; skip; go_simp) <;> with_reducible rfl)); (try simp only [Act.put, List.setIfInBounds_toArray, List.set_cons_zero, List.set_cons_succ]))
                    (refine wpAnyH_take (i := 23) (oi := ?oi_c24) (v := ?v_c24) ?ho_c24 ?hs_c24 ?hf_c24 ?hr_c24 ?hQ_c24 ?hy_c24 ?hS_c24 ?rest_c24; (case hr_c24 => kernel_rfl); (case hf_c24 => kernel_rfl); (case hs_c24 => kernel_rfl); (case ho_c24 => (simp only [List.getElem?_toArray, List.getElem?_cons_succ, List.getElem?_cons_zero]; rfl)); (case hS_c24 => assumption); (case hQ_c24 => exact fun _ _ _ h => h); (case hy_c24 => (refine Or.inl ⟨by rfl, ?_⟩; (intro w hSw; skip; go_simp) <;> with_reducible rfl)); (try simp only [Act.put, List.setIfInBounds_toArray, List.set_cons_zero, List.set_cons_succ]))
                    (refine wpAnyH_take (i := 24) (oi := ?oi_c25) (v := ?v_c25) ?ho_c25 ?hs_c25 ?hf_c25 ?hr_c25 ?hQ_c25 ?hy_c25 ?hS_c25 ?rest_c25; (case hr_c25 => kernel_rfl); (case hf_c25 => kernel_rfl); (case hs_c25 => kernel_rfl); (case ho_c25 => (simp only [List.getElem?_toArray, List.getElem?_cons_succ, List.getElem?_cons_zero]; rfl)); (case hS_c25 => assumption); (case hQ_c25 => exact fun _ _ _ h => h); (case hy_c25 => (refine Or.inl ⟨by rfl, ?_⟩; (intro w hSw; skip; go_simp) <;> with_reducible rfl)); (try simp only [Act.put, List.setIfInBounds_toArray, List.set_cons_zero, List.set_cons_succ]))
                    (refine wpAnyH_take (i := 25) (oi := ?oi_c26) (v := ?v_c26) ?ho_c26 ?hs_c26 ?hf_c26 ?hr_c26 ?hQ_c26 ?hy_c26 ?hS_c26 ?rest_c26; (case hr_c26 => kernel_rfl); (case hf_c26 => kernel_rfl); (case hs_c26 => kernel_rfl); (case ho_c26 => (simp only [List.getElem?_toArray, List.getElem?_cons_succ, List.getElem?_cons_zero]; rfl)); (case hS_c26 => assumption); (case hQ_c26 => exact fun _ _ _ h => h); (case hy_c26 => (refine Or.inl ⟨by rfl, ?_⟩; (intro w hSw; skip; go_simp) <;> with_reducible rfl)); (try simp only [Act.put, List.setIfInBounds_toArray, List.set_cons_zero, List.set_cons_succ]))
                    (refine wpAnyH_take (i := 27) (oi := ?oi_c27) (v := ?v_c27) ?ho_c27 ?hs_c27 ?hf_c27 ?hr_c27 ?hQ_c27 ?hy_c27 ?hS_c27 ?rest_c27; (case hr_c27 => kernel_rfl); (case hf_c27 => kernel_rfl); (case hs_c27 => kernel_rfl); (case ho_c27 => (simp only [List.getElem?_toArray, List.getElem?_cons_succ, List.getElem?_cons_zero]; rfl)); (case hS_c27 => assumption); (case hQ_c27 => exact fun _ _ _ h => h); (case hy_c27 => (refine Or.inl ⟨by rfl, ?_⟩; (intro w hSw; skip; go_simp) <;> with_reducible rfl)); (try simp only [Act.put, List.setIfInBounds_toArray, List.set_cons_zero, List.set_cons_succ]))
                    (refine wpAnyH_take (i := 28) (oi := ?oi_c28) (v := ?v_c28) ?ho_c28 ?hs_c28 ?hf_c28 ?hr_c28 ?hQ_c28 ?hy_c28 ?hS_c28 ?rest_c28; (case hr_c28 => kernel_rfl); (case hf_c28 => kernel_rfl); (case hs_c28 => kernel_rfl); (case ho_c28 => (simp only [List.getElem?_toArray, List.getElem?_cons_succ, List.getElem?_cons_zero]; rfl)); (case hS_c28 => assumption); (case hQ_c28 => exact fun _ _ _ h => h); (case hy_c28 => (refine Or.inl ⟨by rfl, ?_⟩; (intro w hSw; skip; go_simp) <;> with_reducible rfl)); (try simp only [Act.put, List.setIfInBounds_toArray, List.set_cons_zero, List.set_cons_succ]))
                    refine wpAnyH_ready (rs := [26]) (by kernel_rfl) (by simp) ?_
                    refine (AllReadyH.cons (o := ?ooc29_0) ?hoc29_0 ?hsc29_0 AllReadyH.nil)
                    case hoc29_0 => (simp only [List.getElem?_toArray, List.getElem?_cons_succ, List.getElem?_cons_zero]; rfl)
                    case hsc29_0 =>
                      intro K hK
                      go_simp
                      go_at_call 15
                      refine (cF.out _ hA12).mono ?_
                      rintro en w13 ⟨rfl, hu13⟩
                      have hN13 := hA12.trans hu13 fun _ _ h => h
                      try go_wp2_with fail
                      refine hK.out _ _ (by exact ⟨hk1.upd hu13 fun _ _ h => h, hk2.upd hu13 fun _ _ h => h⟩) (fun hHeld => ?_)
                      clear hK K
                      try simp only [Act.put, List.setIfInBounds_toArray, List.set_cons_zero, List.set_cons_succ]
                      (refine wpAnyH_take (i := 29) (oi := ?oi_c30) (v := ?v_c30) ?ho_c30 ?hs_c30 ?hf_c30 ?hr_c30 ?hQ_c30 ?hy_c30 ?hS_c30 ?rest_c30; (case hr_c30 => kernel_rfl); (case hf_c30 => kernel_rfl); (case hs_c30 => kernel_rfl); (case ho_c30 => (simp only [List.getElem?_toArray, List.getElem?_cons_succ, List.getElem?_cons_zero]; rfl)); (case hS_c30 => assumption); (case hQ_c30 => exact fun _ _ _ h => h); (case hy_c30 => (refine Or.inl ⟨by rfl, ?_⟩; (intro w hSw; skip; go_simp) <;> with_reducible rfl)); (try simp only [Act.put, List.setIfInBounds_toArray, List.set_cons_zero, List.set_cons_succ]))
                      (refine wpAnyH_take (i := 30) (oi := ?oi_c31) (v := ?v_c31) ?ho_c31 ?hs_c31 ?hf_c31 ?hr_c31 ?hQ_c31 ?hy_c31 ?hS_c31 ?rest_c31; (case hr_c31 => kernel_rfl); (case hf_c31 => kernel_rfl); (case hs_c31 => kernel_rfl); (case ho_c31 => (simp only [List.getElem?_toArray, List.getElem?_cons_succ, List.getElem?_cons_zero]; rfl)); (case hS_c31 => assumption); (case hQ_c31 => exact fun _ _ _ h => h); (case hy_c31 => (refine Or.inl ⟨by rfl, ?_⟩; (intro w hSw; skip; go_simp) <;> with_reducible rfl)); (try simp only [Act.put, List.setIfInBounds_toArray, List.set_cons_zero, List.set_cons_succ]))
                      (refine wpAnyH_take (i := 31) (oi := ?oi_c32) (v := ?v_c32) ?ho_c32 ?hs_c32 ?hf_c32 ?hr_c32 ?hQ_c32 ?hy_c32 ?hS_c32 ?rest_c32; (case hr_c32 => kernel_rfl); (case hf_c32 => kernel_rfl); (case hs_c32 => kernel_rfl); (case ho_c32 => (simp only [List.getElem?_toArray, List.getElem?_cons_succ, List.getElem?_cons_zero]; rfl)); (case hS_c32 => assumption); (case hQ_c32 => exact fun _ _ _ h => h); (case hy_c32 => (refine Or.inl ⟨by rfl, ?_⟩; (intro w hSw; skip; go_simp) <;> with_reducible rfl)); (try simp only [Act.put, List.setIfInBounds_toArray, List.set_cons_zero, List.set_cons_succ]))
                      refine wpAnyH_ready (rs := [32]) (by kernel_rfl) (by simp) ?_
                      refine (AllReadyH.cons (o := ?ooc33_0) ?hoc33_0 ?hsc33_0 AllReadyH.nil)
                      case hoc33_0 => (simp only [List.getElem?_toArray, List.getElem?_cons_succ, List.getElem?_cons_zero]; rfl)
                      case hsc33_0 =>
                        intro K hK
                        go_simp
                        go_at_call 16
                        refine (hlv.out _).mono ?_
                        rintro en w14 ⟨rfl, hu14⟩
                        have hN14 := hN13.trans hu14 fun _ _ h => h
                        try go_wp2_with fail
                        refine hK.out _ _ (by exact ⟨(hk1.upd hu13 fun _ _ h => h).upd hu14 fun _ _ h => h, (hk2.upd hu13 fun _ _ h => h).upd hu14 fun _ _ h => h⟩) (fun hHeld => ?_)
                        clear hK K
                        try simp only [Act.put, List.setIfInBounds_toArray, List.set_cons_zero, List.set_cons_succ]
                        (refine wpAnyH_take (i := 33) (oi := ?oi_c34) (v := ?v_c34) ?ho_c34 ?hs_c34 ?hf_c34 ?hr_c34 ?hQ_c34 ?hy_c34 ?hS_c34 ?rest_c34; (case hr_c34 => kernel_rfl); (case hf_c34 => kernel_rfl); (case hs_c34 => kernel_rfl); (case ho_c34 => (simp only [List.getElem?_toArray, List.getElem?_cons_succ, List.getElem?_cons_zero]; rfl)); (case hS_c34 => assumption); (case hQ_c34 => exact fun _ _ _ h => h); (case hy_c34 => (refine Or.inl ⟨by rfl, ?_⟩; (intro w hSw; skip; go_simp) <;> with_reducible rfl)); (try simp only [Act.put, List.setIfInBounds_toArray, List.set_cons_zero, List.set_cons_succ]))
                        (refine wpAnyH_take (i := 34) (oi := ?oi_c35) (v := ?v_c35) ?ho_c35 ?hs_c35 ?hf_c35 ?hr_c35 ?hQ_c35 ?hy_c35 ?hS_c35 ?rest_c35; (case hr_c35 => kernel_rfl); (case hf_c35 => kernel_rfl); (case hs_c35 => kernel_rfl); (case ho_c35 => (simp only [List.getElem?_toArray, List.getElem?_cons_succ, List.getElem?_cons_zero]; rfl)); (case hS_c35 => assumption); (case hQ_c35 => exact fun _ _ _ h => h); (case hy_c35 => (refine Or.inl ⟨by rfl, ?_⟩; (intro w hSw; skip; go_simp) <;> with_reducible rfl)); (try simp only [Act.put, List.setIfInBounds_toArray, List.set_cons_zero, List.set_cons_succ]))
                        refine wpAnyH_done (by kernel_rfl) ?_ _
                        clear hHeld
                        go_wp2_with fail
                        go_ret
                        exact ⟨rfl, h11.out.pb.lv.upd.trans hN14 fun _ _ h => h⟩
end Go.Proofs.Ytfjcjppfihafgaa
