/- slot.Read. -/
import Derived.Test.YtmnoldikimcafaaMSlQ
import Derived.Test.YtmnoldikimcafaaMRd
namespace Go.Proofs.Ytmnoldikimcafaa
open Go.RowKit Go.Amb Go.Shelf
set_option linter.unusedVariables false
set_option linter.unusedSimpArgs false
/-- A piece of a slice of bytes. -/
theorem piece_of {w : World} {g off cap : Nat} {s : List UInt8} (h : Bytes w (.slice (some ⟨g, off, none⟩) s.length cap) s) (lo n c : Nat) (h1 : lo + n ≤ s.length) (hc : n ≤ c) (hm : c ≤ maxLen) : Bytes w (.slice (some ⟨g, off + lo, none⟩) n c) (pf s lo n) := by
  have := bytes_piece h lo n c h1 hc hm
  show Has w 1 _ (pf s lo n).length _
  rw [pf_length h1]
  exact this
theorem lRead_len (b : List UInt8) (v : Value) (w : World) (hB : Bytes w v b) (hl : ¬ b.length = 128) : Calls Try.prog 57 #[v] w (Ret (.tuple #[(readS b).1.v, .int .i64 (readS b).2]) w) := by
  have hro : readS b = (slot0, 4) := by unfold readS; rw [if_neg (fun h => hl h.1)]
  rw [hro]
  obtain ⟨a, c, rfl⟩ := bytes_form hB
  have hl2 : ((b.length : Int) == 128) = false := by simp; omega
  have hl3 : ¬ (b.length : Int) = 128 := by omega
  clear hro hB
  go_enter Try.func57, Try.ntmps57
  go_wp2_with fail
  have hA := cells_of (heap_alloc_new w (.cells #[.int .i64 0, .int .i64 0, .bool false, .bool false, .string ⟨#[]⟩] 56))
  have z0 := hA.1 0
  have z1 := hA.1 1
  have z2 := hA.1 2
  have z3 := hA.1 3
  have z4 := hA.1 4
  refine bodyPost_ret (v := .tuple #[slot0.v, .int .i64 4]) (by simp [results, Try.results57, go_sem, z0, z1, z2, z3, z4, slot0]; try rfl) rfl ⟨rfl, Upd.alloc _ _ _⟩
theorem lRead_head (b : List UInt8) (v : Value) (w : World) (hB : Bytes w v b) (hl : b.length = 128) (h0 : ¬ pf b 0 1 = [83]) : Calls Try.prog 57 #[v] w (Ret (.tuple #[(readS b).1.v, .int .i64 (readS b).2]) w) := by
  have hro : readS b = (slot0, 4) := by unfold readS; rw [if_neg (fun h => h0 ((slotB_iff hl h.2.1 h.2.2.1).1 h.2.2.2).1)]
  rw [hro]
  obtain ⟨g, off, c, rfl, h1, h2, hc⟩ := bytes_at hB (by omega)
  have x0 := (Upd.alloc Non w (.cells #[.int .i64 0, .int .i64 0, .bool false, .bool false, .string ⟨#[]⟩] 56)).cell (hc 0 (by omega)) fun h => h
  rw [Nat.add_zero] at x0
  have hne : ¬ (b[0].toNat : Int) = 83 := by
    intro h
    apply h0
    unfold pf
    rw [List.drop_zero, List.take_one, List.head?_eq_getElem?, List.getElem?_eq_getElem (by omega)]
    have : b[0] = 83 := UInt8.toNat_inj.1 (by show _ = 83; omega)
    rw [this]; rfl
  have hl' : (b.length : Int) = 128 := by omega
  generalize b[0].toNat = k at *
  clear hro hB hc h0 hl h1 h2
  go_enter Try.func57, Try.ntmps57
  go_wp2_with fail
  have hA := cells_of (heap_alloc_new w (.cells #[.int .i64 0, .int .i64 0, .bool false, .bool false, .string ⟨#[]⟩] 56))
  have z0 := hA.1 0
  have z1 := hA.1 1
  have z2 := hA.1 2
  have z3 := hA.1 3
  have z4 := hA.1 4
  refine bodyPost_ret (v := .tuple #[slot0.v, .int .i64 4]) (by simp [results, Try.results57, go_sem, z0, z1, z2, z3, z4, slot0]; try rfl) rfl ⟨rfl, Upd.alloc _ _ _⟩
theorem pf_pf (b : List UInt8) (i m a k : Nat) (h : a + k ≤ m) : ((pf b i m).drop a).take k = pf b (i + a) k := by
  unfold pf
  rw [List.drop_take, List.take_take, List.drop_drop, Nat.min_eq_left (by omega)]
theorem flg1 : ∀ k : Fin 256, (bits .and .i64 ((k.val : Nat) : Int) 1 != 0) = decide (k.val % 2 = 1) := by decide +kernel
theorem flg2 : ∀ k : Fin 256, (bits .and .i64 ((k.val : Nat) : Int) 2 != 0) = decide (k.val / 2 % 2 = 1) := by decide +kernel
set_option maxRecDepth 100000
set_option maxHeartbeats 2000000 in
theorem lRead_rest (b : List UInt8) (v : Value) (w : World) (hB : Bytes w v b) (hl : b.length = 128) (h0 : pf b 0 1 = [83]) : Calls Try.prog 57 #[v] w (Ret (.tuple #[(readS b).1.v, .int .i64 (readS b).2]) w) := by
  obtain ⟨g, off, c, rfl, h1, h2, hc⟩ := bytes_at hB (by omega)
  have hgl : g < w.heap.size := by
    have := World.block_lt_of_cell? w _ (hc 0 (by omega)); exact this
  have x0 := (Upd.alloc Non w (.cells #[.int .i64 0, .int .i64 0, .bool false, .bool false, .string ⟨#[]⟩] 56)).cell (hc 0 (by omega)) fun h => h
  rw [Nat.add_zero] at x0
  have hb0 : (b[0].toNat : Int) = 83 := by
    unfold pf at h0
    rw [List.drop_zero, List.take_one, List.head?_eq_getElem?, List.getElem?_eq_getElem (by omega)] at h0
    injection h0 with h0
    rw [h0]; rfl
  rw [hb0] at x0
  have hl' : (b.length : Int) = 128 := by omega
  have p1 := piece_of hB 1 127 (c - 1) (by omega) (by omega) (by omega)
  have hlp : (pf b 1 127).length = 127 := pf_length (by omega)
  have cN := fun w' (hu : Upd Non w w') => fNewReader _ (pf b 1 127) w' (p1.non hu) (by omega)
  replace cN := Lib.hid cN
  replace hc := Lib.hid hc
  replace hB := Lib.hid hB
  have hc1 : ¬ c = 1 := by omega
  clear hb0 p1
  have r1 : rdNum (pf b 1 127) 0 0 1 = (1, 0, ((flgN b : Nat) : Int)) := by
    rw [rdNum_ok (by omega), pf_pf b 1 127 0 1 (by omega), numL_wrap (pf_length (by omega)) (by omega)]
    exact congrArg (fun x => (1, 0, x)) (Int.toNat_of_nonneg (numL_nonneg _)).symm
  have r2 : rdNum (pf b 1 127) 1 0 4 = (5, 0, wrap64 (numL (pf b 2 4))) := by rw [rdNum_ok (by omega), pf_pf b 1 127 1 4 (by omega)]
  have r3 : rdNum (pf b 1 127) 5 0 8 = (13, 0, wrap64 (numL (pf b 6 8))) := by rw [rdNum_ok (by omega), pf_pf b 1 127 5 8 (by omega)]
  have r4 : rdNum (pf b 1 127) 13 0 2 = (15, 0, ((datN b : Nat) : Int)) := by
    rw [rdNum_ok (by omega), pf_pf b 1 127 13 2 (by omega), numL_wrap (pf_length (by omega)) (by omega)]
    exact congrArg (fun x => (15, 0, x)) (Int.toNat_of_nonneg (numL_nonneg _)).symm
  replace r1 := Lib.hid r1
  replace r2 := Lib.hid r2
  replace r3 := Lib.hid r3
  replace r4 := Lib.hid r4
  have hdn0 : 0 ≤ datN b := Nat.zero_le _
  have hfl := flgN_lt hl
  have hdl := numL_lt_of (l := pf b 14 2) (m := 2) (by rw [pf_length (by omega)]; omega)
  rw [← datN_eq hl] at hdl
  obtain ⟨e, he⟩ : ∃ e, wrap64 (numL (pf b 2 4)) = e := ⟨_, rfl⟩
  obtain ⟨q, hq⟩ : ∃ q, wrap64 (numL (pf b 6 8)) = q := ⟨_, rfl⟩
  obtain ⟨n, hn⟩ : ∃ n, datN b = n := ⟨_, rfl⟩
  obtain ⟨k, hk⟩ : ∃ k, flgN b = k := ⟨_, rfl⟩
  rw [he] at r2
  rw [hq] at r3
  rw [hn] at r4 hdl
  rw [hk] at r1 hfl
  replace hk := Lib.hid hk
  replace hn := Lib.hid hn
  replace he := Lib.hid he
  replace hq := Lib.hid hq
  clear hdn0
  go_enter Try.func57, Try.ntmps57
  go_wp2_with fail
  refine (cN.out _ (Upd.alloc Non w _)).mono ?_
  rintro en w1 ⟨r, rfl, hR, hu1, hr⟩
  have hX := hu1.heap (heap_alloc_new w _) fun h => h
  have hU1 := (Upd.alloc Non w (.cells #[.int .i64 0, .int .i64 0, .bool false, .bool false, .string ⟨#[]⟩] 56)).trans hu1 fun _ _ h => h
  have hr' : w.heap.size < r := by have := hr; simp at this; omega
  generalize (w.alloc (.cells #[.int .i64 0, .int .i64 0, .bool false, .bool false, .string ⟨#[]⟩] 56)).heap.size = L at hR
  clear hu1 x0 hr
  have c1 := fU8 r _ 0 0 w1 hR
  rw [r1.out] at c1
  replace c1 := Lib.hid c1
  clear hR
  go_wp2_with fail
  refine c1.out.mono ?_
  rintro en w2 ⟨rfl, hR, hu2⟩
  replace hX := hu2.heap hX fun h => by omega
  have hU2 := hU1.trans hu2 fun _ _ h => by subst h; omega
  clear hu2 hU1 c1
  have c2 := fU32 r _ 1 0 w2 hR
  rw [r2.out] at c2
  replace c2 := Lib.hid c2
  clear hR
  go_wp2_with fail
  refine c2.out.mono ?_
  rintro en w3 ⟨rfl, hR, hu3⟩
  replace hX := hu3.heap hX fun h => by omega
  have hU3 := hU2.trans hu3 fun _ _ h => by subst h; omega
  clear hu3 hU2 c2
  have c3 := fI64 r _ 5 0 w3 hR
  rw [r3.out] at c3
  replace c3 := Lib.hid c3
  clear hR
  go_wp2_with fail
  refine c3.out.mono ?_
  rintro en w4 ⟨rfl, hR, hu4⟩
  replace hX := hu4.heap hX fun h => by omega
  have hU4 := hU3.trans hu4 fun _ _ h => by subst h; omega
  clear hu4 hU3 c3
  obtain ⟨f, hf⟩ : ∃ f, decide (k % 2 = 1) = f := ⟨_, rfl⟩
  obtain ⟨l, hll⟩ : ∃ l, decide (k / 2 % 2 = 1) = l := ⟨_, rfl⟩
  have hf1 : (bits .and .i64 (k : Int) 1 != 0) = f := by rw [← hf]; exact flg1 ⟨k, hfl⟩
  have hf2 : (bits .and .i64 (k : Int) 2 != 0) = l := by rw [← hll]; exact flg2 ⟨k, hfl⟩
  replace hf := Lib.hid hf
  replace hll := Lib.hid hll
  go_wp2_with fail
  clear hf1 hf2
  have hM := hR.lt
  have hU5 := hU4.then_alloc (.cells #[.int .i64 e, .int .i64 q, .bool f, .bool l, .string ⟨#[]⟩] 56)
  have c4 := fU16 r _ 13 0 _ (hR.non (Upd.alloc Non w4 (.cells #[.int .i64 e, .int .i64 q, .bool f, .bool l, .string ⟨#[]⟩] 56)))
  rw [r4.out] at c4
  replace c4 := Lib.hid c4
  replace hX := (Upd.alloc Non w4 (.cells #[.int .i64 e, .int .i64 q, .bool f, .bool l, .string ⟨#[]⟩] 56)).heap hX fun h => h
  have hY := heap_alloc_new w4 (.cells #[.int .i64 e, .int .i64 q, .bool f, .bool l, .string ⟨#[]⟩] 56)
  have hm4 := hU4.size
  clear hU4
  refine c4.out.mono ?_
  clear hR c4
  rintro en w5 ⟨rfl, hR, hu5⟩
  replace hX := hu5.heap hX fun h => by omega
  replace hY := hu5.heap hY fun h => by omega
  replace hU5 := hU5.trans hu5 fun _ _ h => by subst h; omega
  have hm5 := hu5.size
  simp only [World.size_alloc] at hm5
  clear hu5
  generalize w4.heap.size = M at *
  clear r1 r2 r3 r4
  replace hR : RdAt w5 r L (pf b 1 127) 15 0 := hR
  by_cases hn1 : (108 : Int) < (n : Int)
  · have hro : readS b = (slot0, 4) := by
      have := hn.out
      unfold readS; rw [if_neg (fun h => by have := h.2.1; omega)]
    replace hro := Lib.hid hro
    obtain ⟨hx', hz'⟩ := cells_of hX
    have x0 := hx' 0
    have x1 := hx' 1
    have x2 := hx' 2
    have x3 := hx' 3
    have x4 := hx' 4
    have z0 := hz' 0
    have z1 := hz' 1
    have z2 := hz' 2
    have z3 := hz' 3
    have z4 := hz' 4
    clear hx' hz'
    go_wp2_with fail
    obtain ⟨hr, hU6⟩ := set5 hX hU5 (Nat.le_refl _) (.int .i64 0) (.int .i64 0) (.bool false) (.bool false) (.string ⟨#[]⟩)
    rw [hro.out]
    refine bodyPost_ret (v := .tuple #[slot0.v, .int .i64 4]) (by simp [results, Try.results57, go_sem, hr 0, hr 1, hr 2, hr 3, hr 4, slot0]; try rfl) rfl ⟨rfl, hU6⟩
  · by_cases hk3 : (3 : Int) < (k : Int)
    · have hro : readS b = (slot0, 4) := by
        have := hk.out
        unfold readS; rw [if_neg (fun h => by have := ((slotB_iff hl h.2.1 h.2.2.1).1 h.2.2.2).2.1; omega)]
      replace hro := Lib.hid hro
      obtain ⟨hx', hz'⟩ := cells_of hX
      have x0 := hx' 0
      have x1 := hx' 1
      have x2 := hx' 2
      have x3 := hx' 3
      have x4 := hx' 4
      have z0 := hz' 0
      have z1 := hz' 1
      have z2 := hz' 2
      have z3 := hz' 3
      have z4 := hz' 4
      clear hx' hz'
      go_wp2_with fail
      obtain ⟨hr, hU6⟩ := set5 hX hU5 (Nat.le_refl _) (.int .i64 0) (.int .i64 0) (.bool false) (.bool false) (.string ⟨#[]⟩)
      rw [hro.out]
      refine bodyPost_ret (v := .tuple #[slot0.v, .int .i64 4]) (by simp [results, Try.results57, go_sem, hr 0, hr 1, hr 2, hr 3, hr 4, slot0]; try rfl) rfl ⟨rfl, hU6⟩
    · have cA : Hid (Calls Try.prog 69 #[.pointer (some ⟨r, 0, none⟩)] w5 (Ret (.int .i64 15) w5)) := Lib.hid ((fAt r _ 15 0 w5 hR).mono (by rintro en w' ⟨rfl, rfl⟩; exact ⟨rfl, Upd.refl _ _⟩))
      clear hR
      have hn2 : ((108 : Int) < (n : Int)) = False := eq_false hn1
      have hk4 : ((3 : Int) < (k : Int)) = False := eq_false hk3
      replace hn1 := Lib.hid hn1
      replace hk3 := Lib.hid hk3
      replace hc1 : (c = 1) = False := eq_false hc1
      go_wp2_with fail
      refine cA.out.mono ?_
      rintro en w6 ⟨rfl, hu6⟩
      replace hX := hu6.heap hX fun h => h
      replace hY := hu6.heap hY fun h => h
      have hU6 := hU5.trans hu6 fun _ _ h => h
      have hm6 : M + 1 ≤ w6.heap.size := Nat.le_trans hm5 hu6.size
      clear cA hU5 hu6 hm5
      have hnn := hn1.out
      have p16 := piece_of (hB.out.non hU6) 16 n (c - 16) (by omega) (by omega) (by omega)
      have hstr := run_str (P := Try.prog) _ 50 9 5 Try.underlying50 Try.underlying5 Try.underlying9 _ _ p16
      have hw16 : IntKind.i64.wrap (16 + (n : Int)) = 16 + (n : Int) := IntWalk.i64_in _ ⟨by omega, by omega⟩
      have hs1 : (16 : Int) + (n : Int) ≤ (c : Int) := by omega
      have hs2 : (16 : Int) ≤ 16 + (n : Int) := by omega
      have hs4 : (16 : Int) + (n : Int) ≤ 124 := by omega
      have hs5 : (124 : Int) ≤ (c : Int) := by omega
      have hs3 : ((16 : Int) + (n : Int)).toNat = 16 + n := by omega
      obtain ⟨hy', hq'⟩ := cells_of hY
      have y4 : w6.cell? ⟨M, 4, none⟩ = some (.string ⟨#[]⟩) := hy' 4
      have q4 := hq' 4
      clear hy' hq' hnn p16
      replace hdl := Lib.hid hdl
      replace hX := Lib.hid hX
      replace hY := Lib.hid hY
      simp only []
      go_wp2_with fail
      obtain ⟨w7, hw7⟩ : ∃ w7, w6.setCell ⟨M, 4, none⟩ (.string ⟨(pf b 16 n).toArray⟩) = w7 := ⟨_, rfl⟩
      rw [hw7]
      have hU7 : Upd Non w w7 := by rw [← hw7]; exact Upd.then_setCell hU6 (fun h => absurd h (by show ¬ M < _; omega)) _
      have hY7 : w7.heap[M]? = some (.cells #[.int .i64 e, .int .i64 q, .bool f, .bool l, .string ⟨(pf b 16 n).toArray⟩] 56 (0, 0)) := by rw [← hw7]; exact heap_setCell_same _ M 4 _ _ _ hY.out
      have hX7 : w7.heap[w.heap.size]? = some (.cells #[.int .i64 0, .int .i64 0, .bool false, .bool false, .string ⟨#[]⟩] 56 (0, 0)) := by rw [← hw7, heap_setCell_other _ _ _ _ (by show w.heap.size ≠ M; omega)]; exact hX.out
      have hm7 : M + 1 ≤ w7.heap.size := by have := heap_lt hY7; omega
      clear hX hY hU6 hm6 y4 q4 hstr hw7 hw16
      replace hX7 := Lib.hid hX7
      replace hY7 := Lib.hid hY7
      obtain ⟨N, hN⟩ : ∃ N, 124 - (16 + n) = N := ⟨_, rfl⟩
      rw [hN]
      have hN2 : N = 108 - n := by omega
      replace hN := Lib.hid hN
      replace hN2 := Lib.hid hN2
      clear hr' hs3
      go_loopw [66] (fun iv wr => ∃ i : Nat, iv = .int .i64 (i : Int) ∧ i ≤ N ∧ Hid (∀ j, j < i → ∀ h : 16 + n + j < b.length, b[16 + n + j] = 0) ∧ wr = w7) (fun iv _ => N - (intOf iv).toNat)
      case atStart => exact ⟨0, rfl, by omega, Lib.hid (fun j hj => by omega), rfl⟩
      case round =>
        obtain ⟨i, rfl, hi, hz, rfl⟩ := hrel
        by_cases hin : i < N
        · have hin' : (i : Int) < (N : Int) := by omega
          have hlen : 16 + n + i < b.length := by have := hN2.out; omega
          have x0 := hU7.cell (hc.out (16 + n + i) hlen) (fun h => h)
          rw [show off + (16 + n + i) = off + (16 + n) + i by omega] at x0
          by_cases hb0 : b[16 + n + i] = 0
          · have hb1 : (b[16 + n + i].toNat : Int) = 0 := by rw [hb0]; rfl
            rw [hb1] at x0
            replace hb0 := Lib.hid hb0
            clear hb1
            go_wp2_with fail
            go_roundw
            case rel =>
              refine ⟨i + 1, by go_num, by omega, Lib.hid (fun j hj h => ?_), trivial⟩
              rcases Nat.lt_succ_iff_lt_or_eq.1 hj with h2 | rfl
              · exact hz.out j h2 h
              · exact hb0.out
            case measure => simp [intOf]; omega
          · have hro : readS b = (slot0, 4) := by
              unfold readS
              rw [if_neg (fun h => ?_)]
              apply hb0
              have h1 := ((slotB_iff hl h.2.1 h.2.2.1).1 h.2.2.2).2.2.1
              rw [hn.out] at h1
              have h2 : (pf b (16 + n) (108 - n))[i]? = some 0 := by
                rw [h1, List.getElem?_replicate, if_pos (by have := hN2.out; omega)]
              unfold pf at h2
              rw [List.getElem?_take, if_pos (by have := hN2.out; omega), List.getElem?_drop, List.getElem?_eq_getElem hlen] at h2
              injection h2
            replace hro := Lib.hid hro
            have hb1 : ¬ (b[16 + n + i].toNat : Int) = 0 := by
              intro h
              apply hb0
              exact UInt8.toNat_inj.1 (by show _ = 0; omega)
            clear hb0 hz
            generalize b[16 + n + i].toNat = u at *
            have hb2 : (u = 0) = False := eq_false (by omega)
            have hb3 : ((u : Int) == 0) = false := by simp; omega
            have hb4 : ((u : Int) != 0) = true := by simp; omega
            replace hb1 := eq_false hb1
            obtain ⟨hx', hz'⟩ := cells_of hX7.out
            have x0 : wr.cell? ⟨w.heap.size, 0, none⟩ = some (.int .i64 0) := hx' 0
            have x1 : wr.cell? ⟨w.heap.size, 1, none⟩ = some (.int .i64 0) := hx' 1
            have x2 : wr.cell? ⟨w.heap.size, 2, none⟩ = some (.bool false) := hx' 2
            have x3 : wr.cell? ⟨w.heap.size, 3, none⟩ = some (.bool false) := hx' 3
            have x4 : wr.cell? ⟨w.heap.size, 4, none⟩ = some (.string ⟨#[]⟩) := hx' 4
            have z0 := hz' 0
            have z1 := hz' 1
            have z2 := hz' 2
            have z3 := hz' 3
            have z4 := hz' 4
            clear hx' hz'
            go_wp2_with fail
            obtain ⟨hrr, hUe⟩ := set5 hX7.out hU7 (Nat.le_refl _) (.int .i64 0) (.int .i64 0) (.bool false) (.bool false) (.string ⟨#[]⟩)
            rw [hro.out]
            refine bodyPost_ret (v := .tuple #[slot0.v, .int .i64 4]) (by simp [results, Try.results57, go_sem, hrr 0, hrr 1, hrr 2, hrr 3, hrr 4, slot0]; try rfl) rfl ⟨rfl, hUe⟩
        · obtain rfl : i = N := by omega
          have hin' : ¬ (i : Int) < (i : Int) := by omega
          have hzero : Hid (pf b (16 + n) (108 - n) = List.replicate (108 - n) 0) := by
            apply Lib.hid
            apply List.ext_getElem
            · rw [pf_length (by omega), List.length_replicate]
            · intro j h1 h2
              rw [List.getElem_replicate]
              rw [List.length_replicate] at h2
              have := hz.out j (by have := hN2.out; omega) (by omega)
              simp only [pf, List.getElem_take, List.getElem_drop]; exact this
          have p124 := piece_of (hB.out.non hU7) 124 4 (c - 124) (by omega) (by omega) (by omega)
          have cN2 := Lib.hid (fNewReader _ (pf b 124 4) wr p124 (by rw [pf_length (by omega)]; omega))
          clear p124 hz cN
          go_wp2_with fail
          refine cN2.out.mono ?_
          rintro en w8 ⟨r2, rfl, hR2, hu8, hr2⟩
          --R18
          have hX8 := hu8.heap hX7.out fun h => h
          have hY8 := hu8.heap hY7.out fun h => h
          have hU8 := hU7.trans hu8 fun _ _ h => h
          have hMr : M < r2 := by omega
          have hw124 : IntKind.i64.wrap 124 = 124 := by decide
          have hSL : r2 ≠ w.heap.size := by omega
          have hS : slotOf b = ⟨e, q, f, l, pf b 16 n⟩ := by unfold slotOf; rw [he.out, hq.out, hk.out, hf.out, hll.out, hn.out]
          obtain ⟨d, hd⟩ : ∃ d, pf b 16 n = d := ⟨_, rfl⟩
          rw [hd] at hS hY8
          replace hS := Lib.hid hS
          have r5 : rdNum (pf b 124 4) 0 0 4 = (4, 0, wrap64 (numL (pf b 124 4))) := by rw [rdNum_ok (by rw [pf_length (by omega)]; omega)]; congr 3; congr 1; unfold pf; rw [List.drop_zero, List.take_take, Nat.min_self]
          rw [numL_wrap (pf_length (by omega)) (by omega)] at r5
          obtain ⟨u, hu⟩ : ∃ u, numL (pf b 124 4) = u := ⟨_, rfl⟩
          rw [hu] at r5
          have cU : Hid (∀ w', RdAt w' r2 wr.heap.size (pf b 124 4) 0 0 → Calls Try.prog 66 #[.pointer (some ⟨r2, 0, none⟩)] w' (Rdd r2 wr.heap.size (pf b 124 4) 4 0 (.int .i64 u) w')) := by
            apply Lib.hid
            intro w' h
            have := fU32 r2 _ 0 0 w' h
            rw [r5] at this
            exact this
          have hlt : (b.take 124).length = 124 := by rw [List.length_take]; omega
          obtain ⟨s, hs⟩ : ∃ s : Nat, sumC (b.take 124) = s := ⟨_, rfl⟩
          have cS : Hid (∀ w', Upd Non w w' → Calls Try.prog 50 #[.slice (some ⟨g, off, none⟩) 124 c] w' (Ret (.int .i64 (s : Nat)) w')) := by
            apply Lib.hid
            intro w' hU
            have p0 := piece_of (hB.out.non hU) 0 124 c (by omega) (by omega) (by omega)
            have := tagSum _ _ w' p0 (by rw [pf_length (by omega)]; omega)
            rw [show pf b 0 124 = b.take 124 from by unfold pf; rw [List.drop_zero], hs] at this
            exact this
          replace hu := Lib.hid hu
          replace hs := Lib.hid hs
          replace hd := Lib.hid hd
          have cC := Lib.hid (fun w => lCheck ⟨e, q, f, l, d⟩ w)
          obtain ⟨hx', hz'⟩ := cells_of hY8
          have y0 : w8.cell? ⟨M, 0, none⟩ = some (.int .i64 e) := hx' 0
          have y1 : w8.cell? ⟨M, 1, none⟩ = some (.int .i64 q) := hx' 1
          have y2 : w8.cell? ⟨M, 2, none⟩ = some (.bool f) := hx' 2
          have y3 : w8.cell? ⟨M, 3, none⟩ = some (.bool l) := hx' 3
          have y4 : w8.cell? ⟨M, 4, none⟩ = some (.string ⟨d.toArray⟩) := hx' 4
          clear hx' hz'
          replace hX8 := Lib.hid hX8
          replace hY8 := Lib.hid hY8
          clear hX7 hY7 cN2 hin' hin hi r5 hlt hu8 hN hN2
          simp only []
          cases hRt : rightS ⟨e, q, f, l, d⟩ with
          | false =>
            have hro : readS b = (slot0, 4) := by unfold readS; rw [if_neg (fun h => by have := h.2.2.1; rw [hS.out, hRt] at this; simp at this)]
            replace hro := Lib.hid hro
            rw [hRt] at cC
            go_wp2_with fail
            refine wp_region_held_drew (S := (fun w' => w'.cell? ⟨M, 0, none⟩ = some (.int .i64 e) ∧ w'.cell? ⟨M, 1, none⟩ = some (.int .i64 q) ∧ w'.cell? ⟨M, 2, none⟩ = some (.bool f) ∧ w'.cell? ⟨M, 3, none⟩ = some (.bool l) ∧ w'.cell? ⟨M, 4, none⟩ = some (.string ⟨d.toArray⟩))) (by kernel_rfl) (by (try dsimp only); first | exact ⟨m0, m1, m2, m3, m4⟩ | exact ⟨y0, y1, y2, y3, y4⟩) (fun hHeld => ?_)
            (refine wpAnyH_take (i := 0) (oi := ?oi_1_0) (v := ?v_1_0) ?ho_1_0 ?hs_1_0 ?hf_1_0 ?hr_1_0 ?hQ_1_0 ?hy_1_0 ?hS_1_0 ?rest_1_0; (case hr_1_0 => kernel_rfl); (case hf_1_0 => kernel_rfl); (case hs_1_0 => kernel_rfl); (case ho_1_0 => (simp only [List.getElem?_toArray, List.getElem?_cons_succ, List.getElem?_cons_zero]; rfl)); (case hS_1_0 => assumption); (case hQ_1_0 => exact fun _ _ _ h => h); (case hy_1_0 => (refine Or.inl ⟨by rfl, ?_⟩; (intro w hSw; (try dsimp only at hSw); go_simp) <;> with_reducible rfl)); (try simp only [Act.put, List.setIfInBounds_toArray, List.set_cons_zero, List.set_cons_succ]))
            (refine wpAnyH_ready (rs := [1]) (by kernel_rfl) (by simp) ?_; refine AllReadyH.cons (o := ?oo_1_1) ?hoo_1_1 ?hst_1_1 AllReadyH.nil; (case hoo_1_1 => (simp only [List.getElem?_toArray, List.getElem?_cons_succ, List.getElem?_cons_zero]; rfl)); intro K hK; go_simp; ((go_at_call 42; refine (cC.out _).mono ?_; rintro en w9 ⟨rfl, hu9⟩; have hU9 := hU8.then_drew.trans hu9 (fun _ _ h => h); have hX9 := hu9.heap hX8.out (fun h => h); have hY9 := hu9.heap hY8.out (fun h => h); have m0 := hu9.cell y0 (fun h => h); have m1 := hu9.cell y1 (fun h => h); have m2 := hu9.cell y2 (fun h => h); have m3 := hu9.cell y3 (fun h => h); have m4 := hu9.cell y4 (fun h => h))); (try go_wp2_with fail); refine hK.out _ _ (by (try dsimp only); first | exact ⟨m0, m1, m2, m3, m4⟩ | exact ⟨y0, y1, y2, y3, y4⟩) (fun hHeld => ?_); clear hK K; (try simp only [Act.put, List.setIfInBounds_toArray, List.set_cons_zero, List.set_cons_succ]))
            (refine wpAnyH_take (i := 2) (oi := ?oi_1_2) (v := ?v_1_2) ?ho_1_2 ?hs_1_2 ?hf_1_2 ?hr_1_2 ?hQ_1_2 ?hy_1_2 ?hS_1_2 ?rest_1_2; (case hr_1_2 => kernel_rfl); (case hf_1_2 => kernel_rfl); (case hs_1_2 => kernel_rfl); (case ho_1_2 => (simp only [List.getElem?_toArray, List.getElem?_cons_succ, List.getElem?_cons_zero]; rfl)); (case hS_1_2 => assumption); (case hQ_1_2 => exact fun _ _ _ h => h); (case hy_1_2 => (refine Or.inl ⟨by rfl, ?_⟩; (intro w hSw; (try dsimp only at hSw); go_simp) <;> with_reducible rfl)); (try simp only [Act.put, List.setIfInBounds_toArray, List.set_cons_zero, List.set_cons_succ]))
            (refine wpAnyH_take (i := 3) (oi := ?oi_1_3) (v := ?v_1_3) ?ho_1_3 ?hs_1_3 ?hf_1_3 ?hr_1_3 ?hQ_1_3 ?hy_1_3 ?hS_1_3 ?rest_1_3; (case hr_1_3 => kernel_rfl); (case hf_1_3 => kernel_rfl); (case hs_1_3 => kernel_rfl); (case ho_1_3 => (simp only [List.getElem?_toArray, List.getElem?_cons_succ, List.getElem?_cons_zero]; rfl)); (case hS_1_3 => assumption); (case hQ_1_3 => exact fun _ _ _ h => h); (case hy_1_3 => (refine Or.inl ⟨by rfl, ?_⟩; (intro w hSw; (try dsimp only at hSw); go_simp) <;> with_reducible rfl)); (try simp only [Act.put, List.setIfInBounds_toArray, List.set_cons_zero, List.set_cons_succ]))
            (refine wpAnyH_take (i := 4) (oi := ?oi_1_4) (v := undef) ?ho_1_4 ?hs_1_4 ?hf_1_4 ?hr_1_4 ?hQ_1_4 ?hy_1_4 ?hS_1_4 ?rest_1_4; (case hr_1_4 => kernel_rfl); (case hf_1_4 => kernel_rfl); (case hs_1_4 => kernel_rfl); (case ho_1_4 => (simp only [List.getElem?_toArray, List.getElem?_cons_succ, List.getElem?_cons_zero]; rfl)); (case hS_1_4 => assumption); (case hQ_1_4 => exact fun _ _ _ h => h); (case hy_1_4 => exact Or.inr ⟨by rfl, rfl⟩); (try simp only [Act.put, List.setIfInBounds_toArray, List.set_cons_zero, List.set_cons_succ]))
            (refine wpAnyH_take (i := 5) (oi := ?oi_1_5) (v := undef) ?ho_1_5 ?hs_1_5 ?hf_1_5 ?hr_1_5 ?hQ_1_5 ?hy_1_5 ?hS_1_5 ?rest_1_5; (case hr_1_5 => kernel_rfl); (case hf_1_5 => kernel_rfl); (case hs_1_5 => kernel_rfl); (case ho_1_5 => (simp only [List.getElem?_toArray, List.getElem?_cons_succ, List.getElem?_cons_zero]; rfl)); (case hS_1_5 => assumption); (case hQ_1_5 => exact fun _ _ _ h => h); (case hy_1_5 => exact Or.inr ⟨by rfl, rfl⟩); (try simp only [Act.put, List.setIfInBounds_toArray, List.set_cons_zero, List.set_cons_succ]))
            (refine wpAnyH_take (i := 6) (oi := ?oi_1_6) (v := undef) ?ho_1_6 ?hs_1_6 ?hf_1_6 ?hr_1_6 ?hQ_1_6 ?hy_1_6 ?hS_1_6 ?rest_1_6; (case hr_1_6 => kernel_rfl); (case hf_1_6 => kernel_rfl); (case hs_1_6 => kernel_rfl); (case ho_1_6 => (simp only [List.getElem?_toArray, List.getElem?_cons_succ, List.getElem?_cons_zero]; rfl)); (case hS_1_6 => assumption); (case hQ_1_6 => exact fun _ _ _ h => h); (case hy_1_6 => exact Or.inr ⟨by rfl, rfl⟩); (try simp only [Act.put, List.setIfInBounds_toArray, List.set_cons_zero, List.set_cons_succ]))
            (refine wpAnyH_take (i := 7) (oi := ?oi_1_7) (v := undef) ?ho_1_7 ?hs_1_7 ?hf_1_7 ?hr_1_7 ?hQ_1_7 ?hy_1_7 ?hS_1_7 ?rest_1_7; (case hr_1_7 => kernel_rfl); (case hf_1_7 => kernel_rfl); (case hs_1_7 => kernel_rfl); (case ho_1_7 => (simp only [List.getElem?_toArray, List.getElem?_cons_succ, List.getElem?_cons_zero]; rfl)); (case hS_1_7 => assumption); (case hQ_1_7 => exact fun _ _ _ h => h); (case hy_1_7 => exact Or.inr ⟨by rfl, rfl⟩); (try simp only [Act.put, List.setIfInBounds_toArray, List.set_cons_zero, List.set_cons_succ]))
            (refine wpAnyH_take (i := 8) (oi := ?oi_1_8) (v := undef) ?ho_1_8 ?hs_1_8 ?hf_1_8 ?hr_1_8 ?hQ_1_8 ?hy_1_8 ?hS_1_8 ?rest_1_8; (case hr_1_8 => kernel_rfl); (case hf_1_8 => kernel_rfl); (case hs_1_8 => kernel_rfl); (case ho_1_8 => (simp only [List.getElem?_toArray, List.getElem?_cons_succ, List.getElem?_cons_zero]; rfl)); (case hS_1_8 => assumption); (case hQ_1_8 => exact fun _ _ _ h => h); (case hy_1_8 => exact Or.inr ⟨by rfl, rfl⟩); (try simp only [Act.put, List.setIfInBounds_toArray, List.set_cons_zero, List.set_cons_succ]))
            (refine wpAnyH_take (i := 9) (oi := ?oi_1_9) (v := undef) ?ho_1_9 ?hs_1_9 ?hf_1_9 ?hr_1_9 ?hQ_1_9 ?hy_1_9 ?hS_1_9 ?rest_1_9; (case hr_1_9 => kernel_rfl); (case hf_1_9 => kernel_rfl); (case hs_1_9 => kernel_rfl); (case ho_1_9 => (simp only [List.getElem?_toArray, List.getElem?_cons_succ, List.getElem?_cons_zero]; rfl)); (case hS_1_9 => assumption); (case hQ_1_9 => exact fun _ _ _ h => h); (case hy_1_9 => exact Or.inr ⟨by rfl, rfl⟩); (try simp only [Act.put, List.setIfInBounds_toArray, List.set_cons_zero, List.set_cons_succ]))
            (refine wpAnyH_take (i := 10) (oi := ?oi_1_10) (v := undef) ?ho_1_10 ?hs_1_10 ?hf_1_10 ?hr_1_10 ?hQ_1_10 ?hy_1_10 ?hS_1_10 ?rest_1_10; (case hr_1_10 => kernel_rfl); (case hf_1_10 => kernel_rfl); (case hs_1_10 => kernel_rfl); (case ho_1_10 => (simp only [List.getElem?_toArray, List.getElem?_cons_succ, List.getElem?_cons_zero]; rfl)); (case hS_1_10 => assumption); (case hQ_1_10 => exact fun _ _ _ h => h); (case hy_1_10 => exact Or.inr ⟨by rfl, rfl⟩); (try simp only [Act.put, List.setIfInBounds_toArray, List.set_cons_zero, List.set_cons_succ]))
            (refine wpAnyH_take (i := 11) (oi := ?oi_1_11) (v := undef) ?ho_1_11 ?hs_1_11 ?hf_1_11 ?hr_1_11 ?hQ_1_11 ?hy_1_11 ?hS_1_11 ?rest_1_11; (case hr_1_11 => kernel_rfl); (case hf_1_11 => kernel_rfl); (case hs_1_11 => kernel_rfl); (case ho_1_11 => (simp only [List.getElem?_toArray, List.getElem?_cons_succ, List.getElem?_cons_zero]; rfl)); (case hS_1_11 => assumption); (case hQ_1_11 => exact fun _ _ _ h => h); (case hy_1_11 => exact Or.inr ⟨by rfl, rfl⟩); (try simp only [Act.put, List.setIfInBounds_toArray, List.set_cons_zero, List.set_cons_succ]))
            (refine wpAnyH_take (i := 12) (oi := ?oi_1_12) (v := ?v_1_12) ?ho_1_12 ?hs_1_12 ?hf_1_12 ?hr_1_12 ?hQ_1_12 ?hy_1_12 ?hS_1_12 ?rest_1_12; (case hr_1_12 => kernel_rfl); (case hf_1_12 => kernel_rfl); (case hs_1_12 => kernel_rfl); (case ho_1_12 => (simp only [List.getElem?_toArray, List.getElem?_cons_succ, List.getElem?_cons_zero]; rfl)); (case hS_1_12 => assumption); (case hQ_1_12 => exact fun _ _ _ h => h); (case hy_1_12 => (refine Or.inl ⟨by rfl, ?_⟩; (intro w hSw; (try dsimp only at hSw); go_simp) <;> with_reducible rfl)); (try simp only [Act.put, List.setIfInBounds_toArray, List.set_cons_zero, List.set_cons_succ]))
            refine wpAnyH_done (by kernel_rfl) ?_ _
            obtain ⟨hx', hz'⟩ := cells_of hX9
            have x0 : w9.cell? ⟨w.heap.size, 0, none⟩ = some (.int .i64 0) := hx' 0
            have x1 : w9.cell? ⟨w.heap.size, 1, none⟩ = some (.int .i64 0) := hx' 1
            have x2 : w9.cell? ⟨w.heap.size, 2, none⟩ = some (.bool false) := hx' 2
            have x3 : w9.cell? ⟨w.heap.size, 3, none⟩ = some (.bool false) := hx' 3
            have x4 : w9.cell? ⟨w.heap.size, 4, none⟩ = some (.string ⟨#[]⟩) := hx' 4
            have z0 := hz' 0
            have z1 := hz' 1
            have z2 := hz' 2
            have z3 := hz' 3
            have z4 := hz' 4
            clear hx' hz'
            go_wp2_with fail
            obtain ⟨hrr, hUe⟩ := set5 hX9 hU9 (Nat.le_refl _) (.int .i64 0) (.int .i64 0) (.bool false) (.bool false) (.string ⟨#[]⟩)
            rw [hro.out]
            refine bodyPost_ret (v := .tuple #[slot0.v, .int .i64 4]) (by simp [results, Try.results57, go_sem, hrr 0, hrr 1, hrr 2, hrr 3, hrr 4, slot0]; try rfl) rfl ⟨rfl, hUe⟩
          | true =>
            rw [hRt] at cC
            replace hRt := Lib.hid hRt
            obtain ⟨bv, hbv⟩ : ∃ bv : Bool, (u != (s : Int)) = bv := ⟨_, rfl⟩
            go_wp2_with fail
            refine wp_region_held_drew (S := (fun w' => w'.cell? ⟨M, 0, none⟩ = some (.int .i64 e) ∧ w'.cell? ⟨M, 1, none⟩ = some (.int .i64 q) ∧ w'.cell? ⟨M, 2, none⟩ = some (.bool f) ∧ w'.cell? ⟨M, 3, none⟩ = some (.bool l) ∧ w'.cell? ⟨M, 4, none⟩ = some (.string ⟨d.toArray⟩))) (by kernel_rfl) (by (try dsimp only); exact ⟨y0, y1, y2, y3, y4⟩) (fun hHeld => ?_)
            (refine wpAnyH_take (i := 0) (oi := ?oi_k1) (v := ?v_k1) ?ho_k1 ?hs_k1 ?hf_k1 ?hr_k1 ?hQ_k1 ?hy_k1 ?hS_k1 ?rest_k1; (case hr_k1 => kernel_rfl); (case hf_k1 => kernel_rfl); (case hs_k1 => kernel_rfl); (case ho_k1 => (simp only [List.getElem?_toArray, List.getElem?_cons_succ, List.getElem?_cons_zero]; rfl)); (case hS_k1 => assumption); (case hQ_k1 => exact fun _ _ _ h => h); (case hy_k1 => (refine Or.inl ⟨by rfl, ?_⟩; (intro w hSw; (try dsimp only at hSw); go_simp) <;> with_reducible rfl)); (try simp only [Act.put, List.setIfInBounds_toArray, List.set_cons_zero, List.set_cons_succ]))
            refine wpAnyH_ready (rs := [1]) (by kernel_rfl) (by simp) ?_
            refine (AllReadyH.cons (o := ?oor2_0) ?hor2_0 ?hsr2_0 AllReadyH.nil)
            case hor2_0 => (simp only [List.getElem?_toArray, List.getElem?_cons_succ, List.getElem?_cons_zero]; rfl)
            case hsr2_0 =>
              intro K hK; go_simp; go_at_call 42; refine (cC.out _).mono ?_; rintro en w9 ⟨rfl, hu9⟩; have hU9 := hU8.then_drew.trans hu9 (fun _ _ h => h); have hX9 := hu9.heap hX8.out (fun h => h); have hY9 := hu9.heap hY8.out (fun h => h); have m0 := hu9.cell y0 (fun h => h); have m1 := hu9.cell y1 (fun h => h); have m2 := hu9.cell y2 (fun h => h); have m3 := hu9.cell y3 (fun h => h); have m4 := hu9.cell y4 (fun h => h)
              try go_wp2_with fail
              refine hK.out _ _ (by (try dsimp only); exact ⟨m0, m1, m2, m3, m4⟩) (fun hHeld => ?_)
              clear hK K
              try simp only [Act.put, List.setIfInBounds_toArray, List.set_cons_zero, List.set_cons_succ]
              have hR9 := (hR2.non (Upd.drew Non w8)).non hu9
              clear hR2 hu9 y0 y1 y2 y3 y4
              (refine wpAnyH_take (i := 2) (oi := ?oi_k3) (v := ?v_k3) ?ho_k3 ?hs_k3 ?hf_k3 ?hr_k3 ?hQ_k3 ?hy_k3 ?hS_k3 ?rest_k3; (case hr_k3 => kernel_rfl); (case hf_k3 => kernel_rfl); (case hs_k3 => kernel_rfl); (case ho_k3 => (simp only [List.getElem?_toArray, List.getElem?_cons_succ, List.getElem?_cons_zero]; rfl)); (case hS_k3 => assumption); (case hQ_k3 => exact fun _ _ _ h => h); (case hy_k3 => (refine Or.inl ⟨by rfl, ?_⟩; (intro w hSw; (try dsimp only at hSw); go_simp) <;> with_reducible rfl)); (try simp only [Act.put, List.setIfInBounds_toArray, List.set_cons_zero, List.set_cons_succ]))
              (refine wpAnyH_take (i := 3) (oi := ?oi_k4) (v := ?v_k4) ?ho_k4 ?hs_k4 ?hf_k4 ?hr_k4 ?hQ_k4 ?hy_k4 ?hS_k4 ?rest_k4; (case hr_k4 => kernel_rfl); (case hf_k4 => kernel_rfl); (case hs_k4 => kernel_rfl); (case ho_k4 => (simp only [List.getElem?_toArray, List.getElem?_cons_succ, List.getElem?_cons_zero]; rfl)); (case hS_k4 => assumption); (case hQ_k4 => exact fun _ _ _ h => h); (case hy_k4 => (refine Or.inl ⟨by rfl, ?_⟩; (intro w hSw; (try dsimp only at hSw); go_simp) <;> with_reducible rfl)); (try simp only [Act.put, List.setIfInBounds_toArray, List.set_cons_zero, List.set_cons_succ]))
              (refine wpAnyH_take (i := 4) (oi := ?oi_k5) (v := ?v_k5) ?ho_k5 ?hs_k5 ?hf_k5 ?hr_k5 ?hQ_k5 ?hy_k5 ?hS_k5 ?rest_k5; (case hr_k5 => kernel_rfl); (case hf_k5 => kernel_rfl); (case hs_k5 => kernel_rfl); (case ho_k5 => (simp only [List.getElem?_toArray, List.getElem?_cons_succ, List.getElem?_cons_zero]; rfl)); (case hS_k5 => assumption); (case hQ_k5 => exact fun _ _ _ h => h); (case hy_k5 => (refine Or.inl ⟨by rfl, ?_⟩; (intro w hSw; (try dsimp only at hSw); go_simp) <;> with_reducible rfl)); (try simp only [Act.put, List.setIfInBounds_toArray, List.set_cons_zero, List.set_cons_succ]))
              (refine wpAnyH_take (i := 6) (oi := ?oi_k6) (v := ?v_k6) ?ho_k6 ?hs_k6 ?hf_k6 ?hr_k6 ?hQ_k6 ?hy_k6 ?hS_k6 ?rest_k6; (case hr_k6 => kernel_rfl); (case hf_k6 => kernel_rfl); (case hs_k6 => kernel_rfl); (case ho_k6 => (simp only [List.getElem?_toArray, List.getElem?_cons_succ, List.getElem?_cons_zero]; rfl)); (case hS_k6 => assumption); (case hQ_k6 => exact fun _ _ _ h => h); (case hy_k6 => (refine Or.inl ⟨by rfl, ?_⟩; (intro w hSw; (try dsimp only at hSw); go_simp) <;> with_reducible rfl)); (try simp only [Act.put, List.setIfInBounds_toArray, List.set_cons_zero, List.set_cons_succ]))
              (refine wpAnyH_take (i := 7) (oi := ?oi_k7) (v := ?v_k7) ?ho_k7 ?hs_k7 ?hf_k7 ?hr_k7 ?hQ_k7 ?hy_k7 ?hS_k7 ?rest_k7; (case hr_k7 => kernel_rfl); (case hf_k7 => kernel_rfl); (case hs_k7 => kernel_rfl); (case ho_k7 => (simp only [List.getElem?_toArray, List.getElem?_cons_succ, List.getElem?_cons_zero]; rfl)); (case hS_k7 => assumption); (case hQ_k7 => exact fun _ _ _ h => h); (case hy_k7 => (refine Or.inl ⟨by rfl, ?_⟩; (intro w hSw; (try dsimp only at hSw); go_simp) <;> with_reducible rfl)); (try simp only [Act.put, List.setIfInBounds_toArray, List.set_cons_zero, List.set_cons_succ]))
              (refine wpAnyH_take (i := 8) (oi := ?oi_k8) (v := ?v_k8) ?ho_k8 ?hs_k8 ?hf_k8 ?hr_k8 ?hQ_k8 ?hy_k8 ?hS_k8 ?rest_k8; (case hr_k8 => kernel_rfl); (case hf_k8 => kernel_rfl); (case hs_k8 => kernel_rfl); (case ho_k8 => (simp only [List.getElem?_toArray, List.getElem?_cons_succ, List.getElem?_cons_zero]; rfl)); (case hS_k8 => assumption); (case hQ_k8 => exact fun _ _ _ h => h); (case hy_k8 => (refine Or.inl ⟨by rfl, ?_⟩; (intro w hSw; (try dsimp only at hSw); go_simp) <;> with_reducible rfl)); (try simp only [Act.put, List.setIfInBounds_toArray, List.set_cons_zero, List.set_cons_succ]))
              (refine wpAnyH_take (i := 9) (oi := ?oi_k9) (v := ?v_k9) ?ho_k9 ?hs_k9 ?hf_k9 ?hr_k9 ?hQ_k9 ?hy_k9 ?hS_k9 ?rest_k9; (case hr_k9 => kernel_rfl); (case hf_k9 => kernel_rfl); (case hs_k9 => kernel_rfl); (case ho_k9 => (simp only [List.getElem?_toArray, List.getElem?_cons_succ, List.getElem?_cons_zero]; rfl)); (case hS_k9 => assumption); (case hQ_k9 => exact fun _ _ _ h => h); (case hy_k9 => (refine Or.inl ⟨by rfl, ?_⟩; (intro w hSw; (try dsimp only at hSw); go_simp) <;> with_reducible rfl)); (try simp only [Act.put, List.setIfInBounds_toArray, List.set_cons_zero, List.set_cons_succ]))
              refine wpAnyH_ready (rs := [5]) (by kernel_rfl) (by simp) ?_
              refine (AllReadyH.cons (o := ?oor10_0) ?hor10_0 ?hsr10_0 AllReadyH.nil)
              case hor10_0 => (simp only [List.getElem?_toArray, List.getElem?_cons_succ, List.getElem?_cons_zero]; rfl)
              case hsr10_0 =>
                intro K hK; go_simp; go_at_call 66; refine (cU.out _ hR9).mono ?_; rintro en w10 ⟨rfl, hR10, hu10⟩; have hU10 := hU9.trans hu10 (fun _ _ h => by subst h; omega); have hX10 := hu10.heap hX9 (fun h => by omega); have hY10 := hu10.heap hY9 (fun h => by omega); have n0 := hu10.cell m0 (fun h => by have h : M = r2 := h; omega); have n1 := hu10.cell m1 (fun h => by have h : M = r2 := h; omega); have n2 := hu10.cell m2 (fun h => by have h : M = r2 := h; omega); have n3 := hu10.cell m3 (fun h => by have h : M = r2 := h; omega); have n4 := hu10.cell m4 (fun h => by have h : M = r2 := h; omega)
                try go_wp2_with fail
                refine hK.out _ _ (by (try dsimp only); exact ⟨n0, n1, n2, n3, n4⟩) (fun hHeld => ?_)
                clear hK K
                try simp only [Act.put, List.setIfInBounds_toArray, List.set_cons_zero, List.set_cons_succ]
                refine wpAnyH_ready (rs := [10]) (by kernel_rfl) (by simp) ?_
                refine (AllReadyH.cons (o := ?oor11_0) ?hor11_0 ?hsr11_0 AllReadyH.nil)
                case hor11_0 => (simp only [List.getElem?_toArray, List.getElem?_cons_succ, List.getElem?_cons_zero]; rfl)
                case hsr11_0 =>
                  intro K hK; go_simp; go_at_call 50; refine (cS.out _ hU10).mono ?_; rintro en w11 ⟨rfl, hu11⟩; have hU11 := hU10.trans hu11 (fun _ _ h => h); have hX11 := hu11.heap hX10 (fun h => h); have hY11 := hu11.heap hY10 (fun h => h); have o0 := hu11.cell n0 (fun h => h); have o1 := hu11.cell n1 (fun h => h); have o2 := hu11.cell n2 (fun h => h); have o3 := hu11.cell n3 (fun h => h); have o4 := hu11.cell n4 (fun h => h)
                  try go_wp2_with fail
                  refine hK.out _ _ (by (try dsimp only); exact ⟨o0, o1, o2, o3, o4⟩) (fun hHeld => ?_)
                  clear hK K
                  try simp only [Act.put, List.setIfInBounds_toArray, List.set_cons_zero, List.set_cons_succ]
                  (refine wpAnyH_take (i := 11) (oi := ?oi_k12) (v := ?v_k12) ?ho_k12 ?hs_k12 ?hf_k12 ?hr_k12 ?hQ_k12 ?hy_k12 ?hS_k12 ?rest_k12; (case hr_k12 => kernel_rfl); (case hf_k12 => kernel_rfl); (case hs_k12 => kernel_rfl); (case ho_k12 => (simp only [List.getElem?_toArray, List.getElem?_cons_succ, List.getElem?_cons_zero]; rfl)); (case hS_k12 => assumption); (case hQ_k12 => exact fun _ _ _ h => h); (case hy_k12 => (refine Or.inl ⟨by rfl, ?_⟩; (intro w hSw; (try dsimp only at hSw); go_simp) <;> with_reducible rfl)); (try simp only [Act.put, List.setIfInBounds_toArray, List.set_cons_zero, List.set_cons_succ]))
                  (refine wpAnyH_take (i := 12) (oi := ?oi_k13) (v := ?v_k13) ?ho_k13 ?hs_k13 ?hf_k13 ?hr_k13 ?hQ_k13 ?hy_k13 ?hS_k13 ?rest_k13; (case hr_k13 => kernel_rfl); (case hf_k13 => kernel_rfl); (case hs_k13 => kernel_rfl); (case ho_k13 => (simp only [List.getElem?_toArray, List.getElem?_cons_succ, List.getElem?_cons_zero]; rfl)); (case hS_k13 => assumption); (case hQ_k13 => exact fun _ _ _ h => h); (case hy_k13 => (refine Or.inl ⟨by rfl, ?_⟩; (intro w hSw; (try dsimp only at hSw); go_simp) <;> with_reducible rfl)); (try simp only [Act.put, List.setIfInBounds_toArray, List.set_cons_zero, List.set_cons_succ]))
                  refine wpAnyH_done (by kernel_rfl) ?_ _
                  replace hbv := Lib.hid hbv
                  cases bv with
                  | true =>
                    have hro : readS b = (slot0, 4) := by
                      unfold readS
                      rw [if_neg (fun h => ?_)]
                      have h1 := ((slotB_iff hl h.2.1 h.2.2.1).1 h.2.2.2).2.2.2
                      have h2 := hbv.out
                      rw [← hu.out, ← hs.out, h1] at h2
                      simp at h2
                    replace hro := Lib.hid hro
                    obtain ⟨hx', hz'⟩ := cells_of hX11
                    have x0 : w11.cell? ⟨w.heap.size, 0, none⟩ = some (.int .i64 0) := hx' 0
                    have x1 : w11.cell? ⟨w.heap.size, 1, none⟩ = some (.int .i64 0) := hx' 1
                    have x2 : w11.cell? ⟨w.heap.size, 2, none⟩ = some (.bool false) := hx' 2
                    have x3 : w11.cell? ⟨w.heap.size, 3, none⟩ = some (.bool false) := hx' 3
                    have x4 : w11.cell? ⟨w.heap.size, 4, none⟩ = some (.string ⟨#[]⟩) := hx' 4
                    have z0 := hz' 0
                    have z1 := hz' 1
                    have z2 := hz' 2
                    have z3 := hz' 3
                    have z4 := hz' 4
                    clear hx' hz'
                    go_wp2_with fail
                    obtain ⟨hrr, hUe⟩ := set5 hX11 hU11 (Nat.le_refl _) (.int .i64 0) (.int .i64 0) (.bool false) (.bool false) (.string ⟨#[]⟩)
                    rw [hro.out]
                    refine bodyPost_ret (v := .tuple #[slot0.v, .int .i64 4]) (by simp [results, Try.results57, go_sem, hrr 0, hrr 1, hrr 2, hrr 3, hrr 4, slot0]; try rfl) rfl ⟨rfl, hUe⟩
                  | false =>
                    have hro : readS b = (⟨e, q, f, l, d⟩, 0) := by
                      have h2 := hbv.out
                      rw [← hu.out, ← hs.out] at h2
                      simp at h2
                      have hnn := hn1.out
                      have hkk := hk3.out
                      have h3 : datN b ≤ 108 := by rw [hn.out]; omega
                      have h4 : rightS (slotOf b) = true := by rw [hS.out]; exact hRt.out
                      have h5 := (slotB_iff hl h3 h4).2 ⟨h0, by rw [hk.out]; omega, by rw [hn.out]; exact hzero.out, h2⟩
                      unfold readS
                      rw [if_pos ⟨hl, h3, h4, h5⟩, hS.out]
                    replace hro := Lib.hid hro
                    obtain ⟨hx', hz'⟩ := cells_of hX11
                    have x0 : w11.cell? ⟨w.heap.size, 0, none⟩ = some (.int .i64 0) := hx' 0
                    have x1 : w11.cell? ⟨w.heap.size, 1, none⟩ = some (.int .i64 0) := hx' 1
                    have x2 : w11.cell? ⟨w.heap.size, 2, none⟩ = some (.bool false) := hx' 2
                    have x3 : w11.cell? ⟨w.heap.size, 3, none⟩ = some (.bool false) := hx' 3
                    have x4 : w11.cell? ⟨w.heap.size, 4, none⟩ = some (.string ⟨#[]⟩) := hx' 4
                    have z0 := hz' 0
                    have z1 := hz' 1
                    have z2 := hz' 2
                    have z3 := hz' 3
                    have z4 := hz' 4
                    clear hx' hz'
                    obtain ⟨hx', hz'⟩ := cells_of hY11
                    have y0 : w11.cell? ⟨M, 0, none⟩ = some (.int .i64 e) := hx' 0
                    have y1 : w11.cell? ⟨M, 1, none⟩ = some (.int .i64 q) := hx' 1
                    have y2 : w11.cell? ⟨M, 2, none⟩ = some (.bool f) := hx' 2
                    have y3 : w11.cell? ⟨M, 3, none⟩ = some (.bool l) := hx' 3
                    have y4 : w11.cell? ⟨M, 4, none⟩ = some (.string ⟨d.toArray⟩) := hx' 4
                    clear hx' hz'
                    go_wp2_with fail
                    obtain ⟨hrr, hUe⟩ := set5 hX11 hU11 (Nat.le_refl _) (.int .i64 e) (.int .i64 q) (.bool f) (.bool l) (.string ⟨d.toArray⟩)
                    rw [hro.out]
                    refine bodyPost_ret (v := .tuple #[S5.v ⟨e, q, f, l, d⟩, .int .i64 0]) (by simp [results, Try.results57, go_sem, hrr 0, hrr 1, hrr 2, hrr 3, hrr 4]; try rfl) rfl ⟨rfl, hUe⟩
end Go.Proofs.Ytmnoldikimcafaa
