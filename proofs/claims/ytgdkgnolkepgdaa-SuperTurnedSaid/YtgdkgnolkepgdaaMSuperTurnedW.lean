/- The walk of SuperTurned. -/
import Derived.Test.YtgdkgnolkepgdaaMSuL
import Derived.Test.YtgdkgnolkepgdaaMSuBo
import Derived.Test.YtgdkgnolkepgdaaMSuT
namespace Go.Proofs.Ytgdkgnolkepgdaa
set_option maxRecDepth 100000
open Go.RowKit Go.Amb Go.Shelf
set_option linter.unusedVariables false
set_option linter.unusedSimpArgs false
attribute [local go_sem ↓] Go.wp_at_zero Go.wp_at_succ
/-- A cell of an owned row is written. -/
theorem own_set {w : World} {base g n cap : Nat} {e : TypeId} {size : Nat} {xs : List Value} (h : w.ownsRow base e size (.slice (some ⟨g, 0, none⟩) n cap) n xs) (k : Nat) (hk : k < xs.length) (u : Value) :
    (w.setCell ⟨g, k, none⟩ u).ownsRow base e size (.slice (some ⟨g, 0, none⟩) n cap) n (xs.set k u) := by
  refine ⟨by rw [List.length_set]; exact h.1, ?_⟩
  rcases h.2 with ⟨hv, _⟩ | ⟨g', cap', cur, hv, hb, hg, hnc, hcm, hcs, ht⟩
  · cases hv
  · injection hv with h1 h2 h3
    injection h1 with h1
    injection h1 with h1
    subst h1; subst h3
    refine .inr ⟨g, cap, _, rfl, hb, heap_setCell_same _ g k _ _ _ hg, hnc, hcm, by simpa using hcs, ?_⟩
    have hl := h.1
    simp only [Array.toList_setIfInBounds, Array.set!_eq_setIfInBounds]
    rw [← ht] at hk ⊢
    rw [List.length_take] at hk
    rw [List.take_set]
theorem and_bit (n k : Nat) (hn : n < 4294967296) : bits .and .u32 ((n : Int) / 2 ^ k) 1 = ((n / 2 ^ k % 2 : Nat) : Int) := by
  have h := u32_and_nat (n / 2 ^ k) 1 (Nat.lt_of_le_of_lt (Nat.div_le_self _ _) hn) (by decide)
  rw [Nat.and_one_is_mod] at h
  rw [← h]
  congr 1
theorem pow_bit (r : Nat) (hr : r < 8) : ∃ p : Nat, (p = 2 ^ r ∧ p < 256) ∧ ((2 : Int) ^ r % 256) = (p : Int) := by
  have : r = 0 ∨ r = 1 ∨ r = 2 ∨ r = 3 ∨ r = 4 ∨ r = 5 ∨ r = 6 ∨ r = 7 := by omega
  rcases this with rfl | rfl | rfl | rfl | rfl | rfl | rfl | rfl <;> exact ⟨_, ⟨rfl, by decide⟩, by decide⟩
theorem of8 {z : Nat} (hz : z < 256) : (UInt8.ofNat z).toNat = z := by simp; omega
theorem bc_setL (q tl : List UInt8) (i z : Nat) (hi : i < q.length) (hz : z < 256) : (bc (q ++ tl)).set i (.int .u8 (z : Int)) = bc (q.set i (UInt8.ofNat z) ++ tl) := by
  have e : (UInt8.ofNat z).toNat = z := by simp; omega
  unfold bc
  rw [List.map_append, List.map_append, List.set_append_left _ _ (by simpa using hi), List.map_set, e]
set_option maxHeartbeats 2000000 in
theorem turned11 (s : Sp) (ai : Int) (n : Nat) (w : World) (ha : -9223372036854775808 ≤ ai ∧ ai ≤ 9223372036854775807) (hn : n < 4294967296) : Calls Try.prog 6 #[spV s, .int .i64 ai, .int .u32 (n : Int)] w (Ret (.bool true) w) := by
  have hlv := Lib.hid lives11
  by_cases hok : SpOk s
  · by_cases hn0 : n = 0
    · subst hn0
      have hby := Lib.hid (fun w => yBytes s w)
      obtain ⟨g, r, st, ep, la, ma⟩ := s
      generalize bytesR ⟨g, r, st, ep, la, ma⟩ = br at *
      unfold spV at *
      simp only at *
      clear hok
      obtain ⟨bl, be⟩ := br
      by_cases hbe : be = 0
      · subst hbe
        go_enter Try.func6, Try.ntmps6
        go_wp2_with fail
        refine (hby.out _).mono ?_
        rintro en w1 ⟨v, rfl, -, -, hX⟩
        have hU := (box6 hX).2
        clear hX hby
        go_wp2_with fail
        refine (hlv.out _).mono ?_
        rintro en w9 ⟨rfl, hu⟩
        go_wp2_with fail
        go_ret
        exact ⟨rfl, hU.trans hu fun _ _ h => h⟩
      · have hbe2 : (be != 0) = true := by simp [hbe]
        replace hbe := Lib.hid hbe
        go_enter Try.func6, Try.ntmps6
        go_wp2_with fail
        refine (hby.out _).mono ?_
        rintro en w1 ⟨v, rfl, -, -, hX⟩
        have hU := (box6 hX).2
        clear hX hby
        go_wp2_with fail
        refine (hlv.out _).mono ?_
        rintro en w9 ⟨rfl, hu⟩
        go_wp2_with fail
        go_ret
        exact ⟨rfl, hU.trans hu fun _ _ h => h⟩
    · have hby := Lib.hid (fun w => yBytesO s w hok)
      rw [full_put] at hby
      have hpl := Lib.hid (preS_length s)
      have htl : Hid ((tailS s).length = 84) := Lib.hid (by unfold tailS; rw [List.length_append, fld_length, List.length_replicate])
      have hyes : Hid (readR (preS s ++ tailS s) = (s, 0)) := Lib.hid (by rw [← full_put]; exact bytes_back hok)
      have hno := fun q x f h1 h2 h3 h4 h5 => @turned_no s q x f h1 h2 h3 h4 h5
      generalize preS s = pre at *
      generalize tailS s = tl at *
      obtain ⟨g, r, st, ep, la, ma⟩ := s
      unfold spV at *
      simp only at *
      replace hno := Lib.hid hno
      have hnI : ((n : Int) == 0) = false := by simp [hn0]
      go_enter Try.func6, Try.ntmps6
      go_wp2_with fail
      refine (hby.out _).mono ?_
      rintro en w1 ⟨v, rfl, ho, hX⟩
      have hU := (box6 hX).2
      clear hX hby
      go_wp2_with fail
      have hw := IntKind.wrap_u64 ai
      obtain ⟨fr, hfr, hf352⟩ : ∃ fr : Nat, wrap64 ((IntKind.u64.wrap ai).tmod 352) = (fr : Int) ∧ fr < 352 := by
        have h0 : 0 ≤ IntKind.u64.wrap ai := by rw [hw]; omega
        have h1 : (IntKind.u64.wrap ai).tmod 352 = IntKind.u64.wrap ai % 352 := Int.tmod_eq_emod_of_nonneg h0
        refine ⟨(IntKind.u64.wrap ai % 352).toNat, ?_, by omega⟩
        rw [h1, IntWalk.wrap64_in _ ⟨by omega, by omega⟩]
        omega
      rw [hfr]
      obtain ⟨g1, c1, rfl⟩ : ∃ g c, v = .slice (some ⟨g, 0, none⟩) 128 c := by
        obtain ⟨h1, h2 | ⟨g, cap, cur, e1, e2, e3⟩⟩ := ho
        · have h5 := h2.2
          rw [List.length_append, hpl.out] at h5
          omega
        · refine ⟨g, cap, ?_⟩
          rw [e1]
          have h4 : (pre ++ tl).length = 128 := by rw [List.length_append, hpl.out, htl.out]
          rw [h4]
      have hol : (pre ++ tl).length = 128 := by rw [List.length_append, hpl.out, htl.out]
      replace ho : w1.ownsRow (w.heap.size + 1) 5 1 (.slice (some ⟨g1, 0, none⟩) 128 c1) 128 (bc (pre ++ tl)) := by
        have h := own_weak (b' := w.heap.size + 1) ho (by simp)
        rw [hol] at h
        exact h
      go_loopw [10, 11] (fun tv i wr => ∃ (k : Nat) (q : List UInt8), k ≤ 32 ∧ fr + k ≤ 352 ∧ i = .int .i64 (k : Int) ∧ tv = .bool (decide (n % 2 ^ k ≠ 0)) ∧ q.length = 44 ∧ leN q ^^^ leN pre = (n % 2 ^ k) * 2 ^ fr ∧ wr.ownsRow (w.heap.size + 1) 5 1 (.slice (some ⟨g1, 0, none⟩) 128 c1) 128 (bc (q ++ tl)) ∧ Upd Non w wr) (fun _ i _ => 32 - (intOf i).toNat)
      case atStart => exact ⟨0, pre, by omega, by omega, rfl, by simp [Nat.mod_one], hpl.out, by rw [Nat.xor_self, Nat.pow_zero, Nat.mod_one, Nat.zero_mul], ho, hU⟩
      case round =>
        clear ho hU
        obtain ⟨k, q, hk, hfk, rfl, rfl, hq, hx, ho, hU⟩ := hrel
        generalize htv : decide (n % 2 ^ k ≠ 0) = tv at *
        replace htv := Lib.hid htv
        have hg1 : w.heap.size + 1 ≤ g1 := own_ge ho rfl
        by_cases hlt : k < 32 ∧ fr + k < 352
        · have hl1 : (k : Int) < 32 := by omega
          have hl2 : (fr : Int) + (k : Int) < 352 := by omega
          have hlen : ¬ (128 : Int) ≤ ((fr : Int) + k) / 8 := by omega
          have hi44 : (fr + k) / 8 < 44 := by omega
          have hi2 : (fr + k) / 8 < q.length := by omega
          have hcl : wr.cell? ⟨g1, (fr + k) / 8, none⟩ = some (.int .u8 ((q[(fr + k) / 8]).toNat : Int)) := by
            rw [World.ownsRow.cellAt ho _ (by omega)]
            unfold bc
            rw [List.getElem?_map, List.getElem?_append_left hi2, List.getElem?_eq_getElem hi2]
            rfl
          have hfz : wr.frozen? ⟨g1, (fr + k) / 8, none⟩ = false := by
            rcases ho.2 with ⟨hv, _⟩ | ⟨g', cap', cur, hv, hb, hg, _⟩
            · cases hv
            · injection hv with h1 h2 h3
              injection h1 with h1
              injection h1 with h1
              subst h1
              exact (cells_of hg).2 _
          by_cases hbt : n / 2 ^ k % 2 = 1
          · have hand : (bits .and .u32 ((n : Int) / 2 ^ k) 1 == 1) = true := by rw [and_bit n k hn, hbt]; rfl
            generalize hob : (q[(fr + k) / 8]).toNat = ob at *
            go_wp2_with fail
            have hob8 : ob < 256 := by rw [← hob]; exact UInt8.toNat_lt _
            obtain ⟨p8, ⟨hp8, hp8l⟩, hpI⟩ := pow_bit ((fr + k) % 8) (by omega)
            have hxv : bits .xor .u8 (ob : Int) (2 ^ ((fr + k) % 8) % 256) = ((ob ^^^ 2 ^ ((fr + k) % 8) : Nat) : Int) := by
              rw [hpI, u8_xor_nat ob p8 hob8 (by omega), hp8]
            rw [hxv]
            have hx8 : ob ^^^ 2 ^ ((fr + k) % 8) < 256 := Nat.xor_lt_two_pow (n := 8) hob8 (by rw [← hp8]; omega)
            go_roundw
            case rel =>
              refine ⟨k + 1, q.set ((fr + k) / 8) (UInt8.ofNat (ob ^^^ 2 ^ ((fr + k) % 8))), by omega, by omega, by go_num, ?_, by rw [List.length_set]; exact hq, ?_, ?_, hU.then_setCell (fun h => absurd h (by show ¬ g1 < w.heap.size; omega)) _⟩
              · have h1 := Nat.mod_pow_succ (x := n) (b := 2) (k := k)
                have h2 := Nat.two_pow_pos k
                rw [hbt, Nat.mul_one] at h1
                rw [decide_eq_true (by omega)]
              · rw [leN_set q ((fr + k) / 8) ((fr + k) % 8) hi2 _ (by rw [hob]; exact of8 hx8), bits_step, if_pos hbt, ← hx]
                rw [show 8 * ((fr + k) / 8) + (fr + k) % 8 = k + fr by omega, Nat.xor_assoc, Nat.xor_comm (2 ^ (k + fr)), Nat.xor_assoc]
              · have h := own_set ho ((fr + k) / 8) (by rw [bc_length, List.length_append]; omega) (.int .u8 ((ob ^^^ 2 ^ ((fr + k) % 8) : Nat) : Int))
                rw [bc_setL q tl _ _ hi2 hx8] at h
                exact h
            case measure => simp [intOf]; omega
          · have hb0 : n / 2 ^ k % 2 = 0 := by omega
            have hand : (bits .and .u32 ((n : Int) / 2 ^ k) 1 == 1) = false := by rw [and_bit n k hn, hb0]; rfl
            go_wp2_with fail
            go_roundw
            case rel =>
              refine ⟨k + 1, q, by omega, by omega, by go_num, ?_, hq, ?_, ho, hU⟩
              · have h1 : n % 2 ^ (k + 1) = n % 2 ^ k := by
                  have h2 := Nat.mod_pow_succ (x := n) (b := 2) (k := k)
                  rw [hb0, Nat.mul_zero] at h2
                  exact h2
                rw [h1, htv.out]
              · rw [bits_step, if_neg hbt]; exact hx
            case measure => simp [intOf]; omega
        · have hBq : Bytes wr (.slice (some ⟨g1, 0, none⟩) 128 c1) (q ++ tl) := by
            have h := has_of_owns ho
            unfold Bytes
            rw [show (q ++ tl).length = 128 by rw [List.length_append, hq, htl.out]]
            exact h
          have hrd := Lib.hid (yRead _ (q ++ tl) wr hBq (by rw [List.length_append, hq, htl.out]; decide))
          by_cases hX : n % 2 ^ k = 0
          · have hqp : q = pre := leN_inj q pre (by rw [hq, hpl.out]) (by
              rw [hX, Nat.zero_mul] at hx
              have h6 := congrArg (· ^^^ leN pre) hx
              simpa [Nat.xor_assoc] using h6)
            rw [hqp, hyes.out] at hrd
            have htv2 : tv = false := by rw [← htv.out, hX]; rfl
            subst htv2
            unfold spV at hrd
            simp only at hrd
            replace hX := Lib.hid hX
            clear hx
            by_cases hk32 : k < 32
            · have hl1 : (k : Int) < 32 := by omega
              have hl2 : decide ((fr : Int) + (k : Int) < 352) = false := decide_eq_false (by omega)
              go_wp2_with fail
              refine hrd.out.mono ?_
              rintro en w7 ⟨rfl, hu⟩
              replace hU := (hU.trans hu fun _ _ h => h)
              clear hu hrd
              go_wp2_with fail
              refine (hlv.out _).mono ?_
              rintro en w8 ⟨rfl, hu⟩
              have hU9 := (hU.then_alloc _).trans hu fun _ _ h => h
              go_wp2_with fail
              go_ret
              exact ⟨rfl, hU9⟩
            · have hl1 : decide ((k : Int) < 32) = false := decide_eq_false (by omega)
              go_wp2_with fail
              refine hrd.out.mono ?_
              rintro en w7 ⟨rfl, hu⟩
              replace hU := (hU.trans hu fun _ _ h => h)
              clear hu hrd
              go_wp2_with fail
              refine (hlv.out _).mono ?_
              rintro en w8 ⟨rfl, hu⟩
              have hU9 := (hU.then_alloc _).trans hu fun _ _ h => h
              go_wp2_with fail
              go_ret
              exact ⟨rfl, hU9⟩
          · rw [hno.out q (n % 2 ^ k) fr hq (Nat.lt_of_le_of_lt (Nat.mod_le _ _) hn) hX (by omega) hx] at hrd
            have htv2 : tv = true := by rw [← htv.out]; exact decide_eq_true hX
            subst htv2
            unfold spV Sp.none at hrd
            simp only at hrd
            replace hX := Lib.hid hX
            clear hx
            by_cases hk32 : k < 32
            · have hl1 : (k : Int) < 32 := by omega
              have hl2 : decide ((fr : Int) + (k : Int) < 352) = false := decide_eq_false (by omega)
              go_wp2_with fail
              refine hrd.out.mono ?_
              rintro en w7 ⟨rfl, hu⟩
              replace hU := (hU.trans hu fun _ _ h => h)
              clear hu hrd
              go_wp2_with fail
              refine (hlv.out _).mono ?_
              rintro en w8 ⟨rfl, hu⟩
              have hU9 := (hU.then_alloc _).trans hu fun _ _ h => h
              go_wp2_with fail
              go_ret
              exact ⟨rfl, hU9⟩
            · have hl1 : decide ((k : Int) < 32) = false := decide_eq_false (by omega)
              go_wp2_with fail
              refine hrd.out.mono ?_
              rintro en w7 ⟨rfl, hu⟩
              replace hU := (hU.trans hu fun _ _ h => h)
              clear hu hrd
              go_wp2_with fail
              refine (hlv.out _).mono ?_
              rintro en w8 ⟨rfl, hu⟩
              have hU9 := (hU.then_alloc _).trans hu fun _ _ h => h
              go_wp2_with fail
              go_ret
              exact ⟨rfl, hU9⟩
  · have hby := Lib.hid (fun w => yBytes s w)
    rw [bytesR_no hok] at hby
    obtain ⟨g, r, st, ep, la, ma⟩ := s
    unfold spV at *
    simp only at *
    clear hok
    go_enter Try.func6, Try.ntmps6
    go_wp2_with fail
    refine (hby.out _).mono ?_
    rintro en w1 ⟨v, rfl, -, -, hX⟩
    have hU := (box6 hX).2
    clear hX hby
    go_wp2_with fail
    refine (hlv.out _).mono ?_
    rintro en w9 ⟨rfl, hu⟩
    go_wp2_with fail
    go_ret
    exact ⟨rfl, hU.trans hu fun _ _ h => h⟩
end Go.Proofs.Ytgdkgnolkepgdaa
