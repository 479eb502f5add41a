/- The walk over pager.Keep. -/
import Derived.Test.YtfjcjppfihafgaaMPgI
import Derived.Test.YtfjcjppfihafgaaMBlK
namespace Go.Proofs.Ytfjcjppfihafgaa
open Go.RowKit Go.Amb Go.Shelf
set_option linter.unusedVariables false
set_option linter.unusedSimpArgs false
set_option maxRecDepth 100000
theorem ints_form {w : World} {v : Value} {l : List Int} (h : Ints w v l) : ∃ a c, v = .slice a l.length c ∧ l.length ≤ c ∧ c ≤ maxLen ∧ ∀ k (hk : k < l.length), ∃ g off, a = some ⟨g, off, none⟩ ∧ w.cell? ⟨g, off + k, none⟩ = some (.int .i64 l[k]) := by
  obtain ⟨hl, a, c, rfl, hc, hm, hx⟩ := h
  refine ⟨a, c, rfl, hc, hm, fun k hk => ?_⟩
  rcases hx with h0 | ⟨b, off, rfl, hx⟩
  · omega
  · exact ⟨b, off, rfl, hx k _ (by rw [List.getElem?_map, List.getElem?_eq_getElem hk]; rfl)⟩
theorem ints_pre {w : World} {g off c m : Nat} {l : List Int} (h : Ints w (.slice (some ⟨g, off, none⟩) l.length c) l) (hm : m ≤ l.length) : Ints w (.slice (some ⟨g, off, none⟩) m c) (l.take m) := by
  obtain ⟨hl, a', c', e, hc, hm2, hx⟩ := h
  injection e with e1 e2 e3
  subst e1 e3
  refine ⟨by simp, _, _, by rw [List.length_take, Nat.min_eq_left hm], by rw [List.length_take]; omega, hm2, ?_⟩
  rcases hx with h0 | ⟨b, o, e, hx⟩
  · exact .inl (by rw [List.length_take]; omega)
  · injection e with e
    injection e with e1 e2
    subst e1 e2
    refine .inr ⟨_, _, rfl, fun j u hj => hx j u ?_⟩
    rw [List.map_take, List.getElem?_take] at hj
    split at hj
    · exact hj
    · cases hj
theorem claim_any {l : List Nat} {i : Nat} (h : i < l.length) : claimB (stB l) l.length (i : Int) = stB (l.set i 1) := by
  by_cases h0 : l.getD i 0 = 0
  · exact (claim_st h h0 (by decide)).2
  · rw [stB_keep h h0 (by decide)]
    unfold claimB
    have h1 : ¬ ((i : Int) < 0 ∨ (l.length : Int) ≤ (i : Int)) := by omega
    rw [if_neg h1]
    split <;> first | rfl | skip
    rename_i hb
    exact absurd (show (stB l).testBit i = true by rw [stB_bit, decide_eq_true h0]) hb
section
variable {w0 w w' : World} {P D : Nat} {F F' : Nat → Prop} {r g I fr : Nat} {st : List Nat} {B : Nat} {d : Dk}
theorem gAsk (h : Pb w0 w P D F r g I fr st B d) {bx : Nat} (hb : w.cell? ⟨bx, 0, none⟩ = some (.pointer (some ⟨P, 0, none⟩))) (x : Nat) (hx : x < st.length) :
    Calls Try.prog 35 #[.int .i64 (x : Int), .pointer (some ⟨bx, 0, none⟩)] w (Ret (.bool (decide (st.getD x 0 ≠ 0))) w) := by
  obtain ⟨p0, p1, p2, p3⟩ := cells4 h.cell
  obtain ⟨x0, f0⟩ := h.at x hx
  have hn := h.al.most
  have hxI : (x : Int) < (st.length : Int) := by omega
  have hx0 : (0 : Int) ≤ (x : Int) := by omega
  have ht := Lib.hid (fun w' => gTaken (st.getD x 0) w')
  generalize st.getD x 0 = a at *
  obtain ⟨q, hq⟩ : ∃ q, decide (a ≠ 0) = q := ⟨_, rfl⟩
  rw [hq] at ht ⊢
  clear h hx hq
  go_enter Try.func35, Try.ntmps35
  go_wp2_with fail
  refine (ht.out _).mono ?_
  rintro en w1 ⟨rfl, hu⟩
  go_wp2_with fail
  go_ret
  exact ⟨rfl, hu⟩
set_option maxHeartbeats 2000000 in
theorem gIdx (h : Pb w0 w P D F r g I fr st B d) {bx : Nat} (hb : w.cell? ⟨bx, 0, none⟩ = some (.pointer (some ⟨P, 0, none⟩))) (v : Value) (l : List Int) (hI : Ints w v l) (hl : ∀ x ∈ l, 0 ≤ x ∧ x < (st.length : Int)) :
    Calls Try.prog 49 #[v, .func (.func 35) #[] #[.pointer (some ⟨bx, 0, none⟩)]] w (fun en w' => ∃ r, en = .returned (.int .i64 r) ∧ Upd Non w w') := by
  obtain ⟨a, c, rfl, hlc, hcm, hx⟩ := ints_form hI
  unfold maxLen at hcm
  have hask := Lib.hid (fun w' (hu : Upd Non w w') x hx => gAsk (h.non hu) (hu.cell hb fun h => h) x hx)
  replace hx := Lib.hid hx
  replace hl := Lib.hid hl
  clear hI h hb
  go_enter Try.func49, Try.ntmps49
  go_wp2_with fail
  go_loopw [8] (fun iv wr => ∃ (k : Nat), iv = .int .i64 (k : Int) ∧ k ≤ l.length ∧ Upd Non w wr) (fun iv _ => l.length - (intOf iv).toNat)
  case atStart => exact ⟨0, rfl, Nat.zero_le _, Upd.refl _ _⟩
  case round =>
    obtain ⟨k, rfl, hk, hU⟩ := hrel
    by_cases hlt : k < l.length
    · have hltI : (k : Int) < (l.length : Int) := by omega
      have hk0 : (0 : Int) ≤ (k : Int) := by omega
      obtain ⟨gg, off, rfl, x0⟩ := hx.out k hlt
      replace x0 := hU.cell x0 fun h => h
      have hr := hl.out _ (List.getElem_mem hlt)
      generalize l[k] = y at *
      obtain ⟨y, rfl⟩ := Int.eq_ofNat_of_zero_le hr.1
      have ha := Lib.hid (hask.out wr hU y (by omega))
      clear hr
      generalize decide (st.getD y 0 ≠ 0) = q at *
      go_wp2_with fail
      refine ha.out.mono ?_
      rintro en w1 ⟨rfl, hu⟩
      have hU1 := hU.trans hu fun _ _ h => h
      clear hu x0
      cases q with
      | true =>
        go_wp2_with fail
        go_ret
        exact ⟨_, rfl, hU1⟩
      | false =>
        go_wp2_with fail
        go_roundw
        case rel => exact ⟨k + 1, by go_num, by omega, hU1⟩
        case measure => simp [intOf]; omega
    · have hltI : ¬ (k : Int) < (l.length : Int) := by omega
      go_wp2_with fail
      go_ret
      first | exact ⟨_, rfl, hU⟩ | exact ⟨⟨_, rfl⟩, hU⟩
theorem gAny (h : Pb w0 w P D F r g I fr st B d) {bx : Nat} (hb : w.cell? ⟨bx, 0, none⟩ = some (.pointer (some ⟨P, 0, none⟩))) (v : Value) (l : List Int) (hI : Ints w v l) (hl : ∀ x ∈ l, 0 ≤ x ∧ x < (st.length : Int)) :
    Calls Try.prog 34 #[v, .func (.func 35) #[] #[.pointer (some ⟨bx, 0, none⟩)]] w (fun en w' => ∃ b, en = .returned (.bool b) ∧ Upd Non w w') := by
  have hi := Lib.hid (gIdx h hb v l hI hl)
  obtain ⟨a, c, rfl, -⟩ := ints_form hI
  clear hI h hb hl
  go_enter Try.func34, Try.ntmps34
  go_wp2_with fail
  refine hi.out.mono ?_
  rintro en w1 ⟨q, rfl, hu⟩
  go_wp2_with fail
  go_ret
  exact ⟨_, rfl, hu⟩
set_option maxHeartbeats 4000000 in
theorem gKeep (h : Pg w0 w P D F r g I fr st d) (v : Value) (l : List Int) (hI : Ints w v l) (hv : 0 < l.length → ∀ k, At v k → ¬ own F P I r g k) :
    Calls Try.prog 14 #[.pointer (some ⟨P, 0, none⟩), v] w (fun en w' => ∃ e st', en = .returned (.int .i64 e) ∧ st'.length = st.length ∧ PgS w0 w P D F r g I fr st' (fun x => x = d) w') := by
  have hm := Lib.hid (fun w' (hu : Upd Non w w') => gMade (h.pb.non hu))
  have ht := Lib.hid (fun w' (hu : Upd Non w w') i => gThere (h.pb.non hu) i)
  have hII := Lib.hid (fun w' (hu : Upd Non w w') => hI.non hu)
  have hn := h.pb.al.most
  have hh := Lib.hid h
  obtain ⟨a, c, rfl, hlc, hcm, hx⟩ := ints_form hI
  unfold maxLen at hcm
  have hlb : l.length ≤ 9223372036854775807 := by omega
  have hltw := Lib.hid h.pb.own_lt
  replace hx := Lib.hid hx
  replace hv := Lib.hid hv
  clear hI h
  go_enter Try.func14, Try.ntmps14
  go_wp2_with fail
  have hu0 := Upd.alloc Non w (.cells #[.pointer (some ⟨P, 0, none⟩)] 24)
  have hbx0 := heap_alloc_new w (.cells #[.pointer (some ⟨P, 0, none⟩)] 24)
  refine (hm.out _ hu0).mono ?_
  rintro en w1 ⟨rfl, hu1⟩
  have hU1 := hu0.trans hu1 fun _ _ h => h
  have hbx1 := hu1.heap hbx0 fun h => h
  clear hu0 hu1 hbx0 hm
  go_wp2_with fail
  go_loopw [14] (fun iv wr => ∃ (k : Nat), iv = .int .i64 (k : Int) ∧ k ≤ l.length ∧ Hid (∀ x ∈ l.take k, 0 ≤ x ∧ x < (st.length : Int)) ∧ Upd Non w wr ∧ wr.heap[w.heap.size]? = some (.cells #[.pointer (some ⟨P, 0, none⟩)] 24 (0, 0))) (fun iv _ => l.length - (intOf iv).toNat)
  case atStart => exact ⟨0, rfl, Nat.zero_le _, Lib.hid (fun x hx => by simp at hx), hU1, hbx1⟩
  case round =>
    clear hU1 hbx1
    obtain ⟨k, rfl, hk, hall, hU, hbx⟩ := hrel
    have bx0 : wr.cell? ⟨w.heap.size, 0, none⟩ = some (.pointer (some ⟨P, 0, none⟩)) := (cells_of hbx).1 0
    by_cases hlt : k < l.length
    · have hltI : (k : Int) < (l.length : Int) := by omega
      have hk0 : (0 : Int) ≤ (k : Int) := by omega
      have hkc : (k : Int) ≤ (c : Int) := by omega
      have hkl : (k : Int) ≤ (l.length : Int) := by omega
      obtain ⟨gg, off, rfl, x0⟩ := hx.out k hlt
      replace x0 := hU.cell x0 fun h => h
      have hnx : Hid ((0 ≤ l[k] ∧ l[k] < (st.length : Int)) → ∀ x ∈ l.take (k + 1), 0 ≤ x ∧ x < (st.length : Int)) := Lib.hid (fun hl x hx => by
        rw [List.take_add_one, List.getElem?_eq_getElem hlt, Option.toList_some, List.mem_append, List.mem_singleton] at hx
        rcases hx with hx | rfl
        · exact hall.out x hx
        · exact hl)
      have hcn := Lib.hid (fun w' (hu : Upd Non wr w') => lContains _ (l.take k) l[k] w' (ints_pre (hII.out w' (hU.trans hu fun _ _ h => h)) hk))
      have htk := Lib.hid (ht.out wr hU l[k])
      generalize l[k] = y at *
      by_cases hy : 0 ≤ y ∧ y < (st.length : Int)
      · rw [decide_eq_true hy] at htk
        have hnx' := Lib.hid (hnx.out hy)
        obtain ⟨q, hq⟩ : ∃ q, decide (y ∈ l.take k) = q := ⟨_, rfl⟩
        rw [hq] at hcn
        clear hq hy hnx ht
        go_wp2_with fail
        refine htk.out.mono ?_
        rintro en w2 ⟨rfl, hu⟩
        have hU2 := hU.trans hu fun _ _ h => h
        have hbx2 := hu.heap hbx fun h => h
        have hcn2 := Lib.hid (hcn.out w2 hu)
        clear hu x0 bx0 hbx hU hcn htk
        go_wp2_with fail
        refine hcn2.out.mono ?_
        rintro en w3 ⟨rfl, hu⟩
        have hU3 := hU2.trans hu fun _ _ h => h
        have hbx3 := hu.heap hbx2 fun h => h
        clear hu hbx2 hU2 hcn2
        cases q with
        | true =>
          go_wp2_with fail
          go_ret
          exact ⟨_, st, rfl, rfl, hh.out.stay hU3⟩
        | false =>
          go_wp2_with fail
          go_roundw
          case rel => exact ⟨k + 1, by go_num, by omega, hnx', hU3, hbx3⟩
          case measure => simp [intOf]; omega
      · rw [decide_eq_false hy] at htk
        clear hy hnx ht hcn
        go_wp2_with fail
        refine htk.out.mono ?_
        rintro en w2 ⟨rfl, hu⟩
        have hU2 := hU.trans hu fun _ _ h => h
        clear hu x0 bx0 hbx hU htk
        go_wp2_with fail
        go_ret
        exact ⟨_, st, rfl, rfl, hh.out.stay hU2⟩
    · have hltI : ¬ (k : Int) < (l.length : Int) := by omega
      replace hall : Hid (∀ x ∈ l, 0 ≤ x ∧ x < (st.length : Int)) := Lib.hid (by have := hall.out; rwa [List.take_of_length_le (by omega)] at this)
      have hany := Lib.hid (gAny (hh.out.pb.non hU) bx0 _ l (hII.out wr hU) hall.out)
      clear ht hk hlt bx0
      go_wp2_with fail
      refine hany.out.mono ?_
      rintro en w2 ⟨q, rfl, hu⟩
      have hU2 := hU.trans hu fun _ _ h => h
      have hbx2 := hu.heap hbx fun h => h
      clear hu hbx hU hany
      cases q with
      | true =>
        go_wp2_with fail
        go_ret
        exact ⟨_, st, rfl, rfl, hh.out.stay hU2⟩
      | false =>
        have hB2 := hh.out.pb.non hU2
        go_wp2_with fail
        go_loopw [36] (fun iv wr => ∃ (k : Nat) (sk : List Nat), iv = .int .i64 (k : Int) ∧ k ≤ l.length ∧ Hid (sk.length = st.length) ∧ Hid (∀ s ∈ sk, s < 4) ∧ Pb w0 wr P D F r g I fr sk (stB sk) d ∧ Upd (fun k => k = g ∨ k = I) w wr ∧ wr.heap[w.heap.size]? = some (.cells #[.pointer (some ⟨P, 0, none⟩)] 24 (0, 0))) (fun iv _ => l.length - (intOf iv).toNat)
        case atStart => exact ⟨0, st, rfl, Nat.zero_le _, Lib.hid rfl, Lib.hid hh.out.s4, hB2, hU2.mono (fun _ _ h => h.elim), hbx2⟩
        case round =>
          clear hB2 hU2 hbx2
          obtain ⟨k, sk, rfl, hk, hskl, hs4, hB, hU, hbx⟩ := hrel
          by_cases hlt : k < l.length
          · have hltI : (k : Int) < (l.length : Int) := by omega
            have hk0 : (0 : Int) ≤ (k : Int) := by omega
            obtain ⟨gg, off, rfl, x0⟩ := hx.out k hlt
            have hgg : ¬ (gg = g ∨ gg = I) := fun e => hv.out (by omega) gg (by simp [At, Value.ownBlock]) (e.elim (fun e => .inr (.inr (.inr (.inr e)))) fun e => .inr (.inr (.inl e)))
            replace x0 := hU.cell x0 hgg
            have hy := hall.out _ (List.getElem_mem hlt)
            generalize l[k] = y at *
            obtain ⟨y, rfl⟩ := Int.eq_ofNat_of_zero_le hy.1
            have hyl : Hid (y < sk.length) := Lib.hid (by rw [hskl.out]; omega)
            have hyI : (y : Int) < (st.length : Int) := hy.2
            have hy0 : (0 : Int) ≤ (y : Int) := by omega
            have bx0 : wr.cell? ⟨w.heap.size, 0, none⟩ = some (.pointer (some ⟨P, 0, none⟩)) := (cells_of hbx).1 0
            obtain ⟨p0, p1, p2, p3⟩ := cells4 hB.cell
            have hC := Lib.hid (aClaim r g sk.length (stB sk) (y : Int) wr hB.al)
            rw [claim_any hyl.out] at hC
            replace hB := Lib.hid hB
            clear hy
            go_wp2_with fail
            refine hC.out.mono ?_
            rintro en w3 ⟨rfl, ha, hu⟩
            have hB3 := hB.out.alloc ha hu
            have hU3 := hU.trans hu fun _ _ e => .inl e
            have hbx3 := hu.heap hbx (fun e => by have := hltw.out g (.inr (.inr (.inr (.inr rfl)))); omega)
            clear p0 p1 p2 p3 bx0 x0 ha hu hbx hC
            have bx0 : w3.cell? ⟨w.heap.size, 0, none⟩ = some (.pointer (some ⟨P, 0, none⟩)) := (cells_of hbx3).1 0
            obtain ⟨p0, p1, p2, p3⟩ := cells4 hB3.cell
            rw [hskl.out] at p3
            obtain ⟨z0, f0⟩ := hB3.at y hyl.out
            have hB4 := hB3.set y 1
            have hU4 := hU3.trans (Pb.upd_set w3 I y (.int .i64 1)) fun _ _ e => .inr e
            have hbx4 := (Pb.upd_set w3 I y (.int .i64 1)).heap hbx3 (fun e => by have := hltw.out I (.inr (.inr (.inl rfl))); omega)
            have hs4' := Lib.hid (set_lt4 hs4.out y 1 (by decide))
            have hskl' : Hid ((sk.set y 1).length = st.length) := Lib.hid (by rw [List.length_set]; exact hskl.out)
            replace hB4 := Lib.hid hB4
            clear hB3 hU3 hB hU
            go_wp2_with fail
            go_roundw
            case rel => exact ⟨k + 1, _, by go_num, by omega, hskl', hs4', hB4.out, hU4, hbx4⟩
            case measure => simp [intOf]; omega
          · have hltI : ¬ (k : Int) < (l.length : Int) := by omega
            replace hB := Lib.hid hB
            go_wp2_with fail
            go_ret
            have hfin := hh.out.next hB.out hskl.out hs4.out hU
            first | exact ⟨_, sk, rfl, hskl.out, hfin⟩ | exact ⟨⟨_, rfl⟩, sk, hskl.out, hfin⟩ | exact ⟨_, rfl, sk, hskl.out, hfin⟩
end
end Go.Proofs.Ytfjcjppfihafgaa
