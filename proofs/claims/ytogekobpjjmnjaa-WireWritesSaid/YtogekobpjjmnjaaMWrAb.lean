/- The reference's Read: the walk. -/
import Derived.Test.YtogekobpjjmnjaaMWrAa
namespace Go.Proofs.Ytogekobpjjmnjaa
open Go.RowKit Go.Amb
set_option linter.unusedVariables false
set_option linter.unusedSimpArgs false
set_option maxRecDepth 100000
attribute [local go_sem ↓] Go.wp_at_zero Go.wp_at_succ
/-- Between two letters: the reader in block T, the request in block b, the result's block Z. -/
def RdI (w : World) (Z T b : Nat) (s : List UInt8) (x : Rq × Nat × Int) (pv : Value) (wr : World) : Prop :=
  TkAt wr T s x.2.1 x.2.2 ∧ wr.heap[b]? = some (.cells (rqC x.1 pv) 30 (0, 0)) ∧ wr.ownsRow (b + 1) 3 1 pv x.1.parts.length (x.1.parts.map (.int .i64)) ∧ wr.heap[Z]? = some (.cells (rqC zeroQ (.slice none 0 0)) 30 (0, 0)) ∧ Upd Non w wr
theorem RdI.step {w wr w2 : World} {Z T b : Nat} {s : List UInt8} {x y : Rq × Nat × Int} {pv : Value} (h : RdI w Z T b s x pv wr) (h1 : w.heap.size ≤ Z) (h2 : Z < T) (h3 : T < b) (hT : TkAt w2 T s y.2.1 y.2.2) (hb : w2.heap[b]? = some (.cells (rqC y.1 pv) 30 (0, 0))) (hp : y.1.parts = x.1.parts) (hu : Upd (fun k => k = T ∨ k = b) wr w2) : RdI w Z T b s y pv w2 := by
  obtain ⟨a1, a2, a3, a4, a5⟩ := h
  refine ⟨hT, hb, ?_, hu.heap a4 (by omega), a5.trans hu fun j hj h => by omega⟩
  rw [hp]
  exact hu.owns a3 fun k hk h => by have := own_ge a3 hk; omega
def ReadR (s : List UInt8) (w : World) : Ending → World → Prop := fun en w' =>
  ∃ pv, en = .returned (.tuple #[rqV ((readR s).getD zeroQ) pv, .int .i64 (codeQ (readR s))]) ∧ Ints w' pv ((readR s).getD zeroQ).parts ∧ (∀ k, At pv k → w.heap.size ≤ k ∧ k < w'.heap.size) ∧ Upd Non w w'
theorem str_beq (a b : List UInt8) : ((⟨a.toArray⟩ : ByteArray) == ⟨b.toArray⟩) = decide (a = b) := by
  show (a.toArray == b.toArray) = _
  rw [List.beq_toArray]
  by_cases h : a = b
  · subst h; simp
  · simp [h]
theorem str_bne {a b : List UInt8} (h : ¬ a = b) : ((⟨a.toArray⟩ : ByteArray) != ⟨b.toArray⟩) = true := by
  unfold bne
  rw [str_beq, decide_eq_false h]; rfl
set_option maxHeartbeats 8000000 in
theorem rRead (s : List UInt8) (w : World) (hs : s.length ≤ 140737488355328) : Calls Try.prog 16 #[.string ⟨s.toArray⟩] w (ReadR s w) := by
  have hF := Lib.hid (fun w => rFields (rdNum s 0 0 1).2.2 w)
  have hlast : Hid (lastR s = getAllR s (lets (rdNum s 0 0 1).2.2) (kindQ s)) := Lib.hid rfl
  have c1 := Lib.hid (fun t w h => tNum t s 0 0 1 w h hs (by omega))
  unfold kindQ at hlast
  generalize rdNum s 0 0 1 = x at *
  obtain ⟨a0, e0, k0⟩ := x
  dsimp only at hF c1 hlast
  have hsz : Hid ((Try.prog.info? 30).map (·.size) = some (rqC { zeroQ with kind := k0 } (.slice none 0 0)).size) := Lib.hid (by kernel_rfl)
  have hz0 : ((w.alloc (.cells (rqC zeroQ (.slice none 0 0)) 30)).alloc (.cells #[.string ⟨s.toArray⟩, .int .i64 0, .int .i64 0] 85)).heap[w.heap.size]? = some (.cells (rqC zeroQ (.slice none 0 0)) 30 (0, 0)) := heap_alloc2_old _ _ _
  have ht0 : TkAt ((w.alloc (.cells (rqC zeroQ (.slice none 0 0)) 30)).alloc (.cells #[.string ⟨s.toArray⟩, .int .i64 0, .int .i64 0] 85)) (w.heap.size + 1) s 0 0 := ⟨Nat.zero_le _, heap_alloc2_new _ _ _⟩
  have hu0 : Upd Non w ((w.alloc (.cells (rqC zeroQ (.slice none 0 0)) 30)).alloc (.cells #[.string ⟨s.toArray⟩, .int .i64 0, .int .i64 0] 85)) := (Upd.alloc _ _ _).then_alloc _
  obtain ⟨PR, hPR⟩ : ∃ PR, ReadR s w = PR := ⟨_, rfl⟩
  rw [hPR]
  replace hPR := Lib.hid hPR
  go_enter Try.func16, Try.ntmps16
  go_wp2_with fail
  refine (c1.out _ _ ht0).mono ?_
  rintro en w2 ⟨rfl, hT2, hu2⟩
  have hz2 := hu2.heap hz0 (by omega)
  have hU2 : Upd Non w w2 := hu0.trans hu2 fun j hj h => by omega
  have hTz := heap_lt hT2.2
  have hbx := heap_alloc_new w2 (.cells (rqC zeroQ (.slice none 0 0)) 30)
  clear hu2 hz0 ht0 hu0
  unfold rqC zeroQ at hbx hz2 hsz
  go_wp2_with ((with_reducible (show wpList _ _ _ (⟨_, Op.store _ _ _, _, _, _, _⟩ :: _) _ _)); refine storeB_list rfl 30 _ _ rfl w2.heap.size #[.int .i64 k0, .int .i64 0, .string ⟨#[]⟩, .string ⟨#[]⟩, .string ⟨#[]⟩, .string ⟨#[]⟩, .string ⟨#[]⟩, .string ⟨#[]⟩, .int .i64 0, .int .i64 0, .int .i64 0, .int .i64 0, .int .i64 0, .slice none 0 0] _ _ rfl rfl hbx rfl hsz.out (by simp [Value.oneCell']) ?_)
  intro w3 hb3 hu3
  have hsz3 := hu3.size
  rw [World.size_alloc] at hsz3
  have hz3 := hu3.heap ((Upd.alloc Non w2 _).heap hz2 fun h => h) (by omega)
  have hT3 : TkAt w3 (w.heap.size + 1) s a0 e0 := ⟨hT2.1, hu3.heap ((Upd.alloc Non w2 _).heap hT2.2 fun h => h) (by omega)⟩
  have hU3 := (hU2.then_alloc _).trans hu3 fun j hj h => by omega
  have x3 : w3.cell? ⟨w2.heap.size, 0, none⟩ = some (.int .i64 k0) := (cells_of hb3).1 0
  clear hu3 hz2 hT2 hU2 hbx
  go_wp2_with fail
  refine (hF.out _).mono ?_
  rintro en w4 ⟨rfl, hu4⟩
  have hI4 : RdI w w.heap.size (w.heap.size + 1) w2.heap.size s ({ zeroQ with kind := k0 }, a0, e0) (.slice none 0 0) w4 := ⟨⟨hT3.1, hu4.heap hT3.2 fun h => h⟩, hu4.heap hb3 fun h => h, World.ownsRow_nil _ _ _ _, hu4.heap hz3 fun h => h, hU3.trans hu4 fun _ _ h => h⟩
  have hq0 : (({ zeroQ with kind := k0 } : Rq), a0, e0).1.parts = [] := rfl
  have hs0 : smallQ (({ zeroQ with kind := k0 } : Rq), a0, e0).1 := ⟨Nat.zero_le _, Nat.zero_le _, Nat.zero_le _, Nat.zero_le _, Nat.zero_le _, Nat.zero_le _⟩
  have hi0 : idOk (({ zeroQ with kind := k0 } : Rq), a0, e0).1 := id0
  have hin := Lib.hid (lets_in k0)
  have hll := lets_short k0
  generalize (({ zeroQ with kind := k0 } : Rq), a0, e0) = q0 at *
  generalize lets k0 = l at *
  obtain ⟨b, hbN⟩ : ∃ b, w2.heap.size = b := ⟨_, rfl⟩
  have hbN' := Lib.hid hbN
  obtain ⟨T, hTN⟩ : ∃ T, w.heap.size + 1 = T := ⟨_, rfl⟩
  rw [hbN] at hI4
  rw [hTN] at hI4
  have hZT : w.heap.size < T := by omega
  have hTb : T < b := by omega
  have hZ : w.heap.size ≤ w.heap.size := Nat.le_refl _
  replace hTN := Lib.hid hTN
  clear hu4 x3 hb3 hz3 hT3 hU3
  rw [hbN, hTN.out]
  go_wp2_with fail
  go_loopw [7] (fun iv wr => ∃ (i : Nat) (pv : Value) (x : Rq × Nat × Int), iv = .int .i64 (i : Int) ∧ i ≤ l.length ∧ Hid (getAllR s (l.take i) q0 = x) ∧ RdI w w.heap.size T b s x pv wr) (fun iv _ => l.length - (intOf iv).toNat)
  case atStart => exact ⟨0, .slice none 0 0, q0, rfl, Nat.zero_le _, Lib.hid rfl, hI4⟩
  case round =>
    clear hI4
    obtain ⟨i, pv, x, rfl, hil, hx, hI⟩ := hrel
    by_cases hlt : i < l.length
    · have hltI : (i : Int) < (l.length : Int) := by omega
      have hi0' : (0 : Int) ≤ (i : Int) := by omega
      have s1 : i < (⟨l.toArray⟩ : ByteArray).size := by show i < l.toArray.size; simpa using hlt
      have hn : ((⟨l.toArray⟩ : ByteArray)[i]'s1) = l[i] := by show l.toArray[i]'_ = _; simp
      have hc : l[i] ∈ lets11 := hin.out _ (List.getElem_mem hlt)
      have hpl : x.1.parts.length ≤ 100000 := by
        have := getAllR_parts s (l.take i) q0
        rw [hx.out, hq0, List.length_take] at this
        simp at this
        omega
      have htk : getAllR s (l.take (i + 1)) q0 = getR s l[i] x := by rw [← hx.out]; exact take_fold _ q0 l i hlt
      have hnext : Hid (∀ y pv2 w2, getR s l[i] x = y → RdI w w.heap.size T b s y pv2 w2 → ∃ (i' : Nat) (pv' : Value) (x' : Rq × Nat × Int), Value.int .i64 ((i : Int) + 1) = .int .i64 (i' : Int) ∧ i' ≤ l.length ∧ Hid (getAllR s (l.take i') q0 = x') ∧ RdI w w.heap.size T b s x' pv' w2) := Lib.hid (fun y pv2 w2 hy hI2 => ⟨i + 1, pv2, y, by rw [Int.natCast_add]; rfl, by omega, Lib.hid (htk.trans hy), hI2⟩)
      clear htk hx
      have hT := hI.1
      have hb := hI.2.1
      generalize l[i] = c at *
      obtain ⟨q, a, e⟩ := x
      dsimp only at hT hb hpl
      have hbl := heap_lt hb
      simp only [lets11, List.mem_cons, List.not_mem_nil, or_false] at hc
      rcases hc with rfl | rfl | rfl | rfl | rfl | rfl | rfl | rfl | rfl | rfl | rfl
      · have hn2 : (((⟨l.toArray⟩ : ByteArray)[i]'s1).toNat : Int) = 83 := by rw [hn]; rfl
        have c1 := Lib.hid (tNum T s a e 1 wr hT hs (by omega))
        have hN := Lib.hid (fun w2 hT2 hb2 hu => hnext.out ({ q with session := (rdNum s a e 1).2.2 }, (rdNum s a e 1).1, (rdNum s a e 1).2.1) pv w2 rfl (hI.step (y := ({ q with session := (rdNum s a e 1).2.2 }, (rdNum s a e 1).1, (rdNum s a e 1).2.1)) hZ hZT hTb hT2 hb2 rfl hu))
        generalize rdNum s a e 1 = x at *
        obtain ⟨a1, e1, n1⟩ := x
        dsimp only at c1 hN
        replace hI := Lib.hid hI
        clear hnext
        go_wp2_with fail
        refine c1.out.mono ?_
        rintro en w1 ⟨rfl, hT1, hu1⟩
        have hM1 := hu1.heap hb (by omega)
        obtain ⟨c0, f0⟩ := cells_of hM1
        have z : w1.cell? ⟨b, 1, none⟩ = (rqC q pv)[1]? := c0 1
        have zf := f0 1
        unfold rqC at z
        simp only [List.getElem?_toArray, List.getElem?_cons_succ, List.getElem?_cons_zero] at z
        have us := Upd.setCell (S := fun k => k = b) w1 (a := ⟨b, 1, none⟩) rfl (.int .i64 n1)
        have hg := Lib.hid (hN.out (w1.setCell ⟨b, 1, none⟩ (.int .i64 n1)) ⟨hT1.1, us.heap hT1.2 (by omega)⟩ (set_blk (j := 1) hM1 (.int .i64 n1)) ((hu1.mono fun _ _ h => .inl h).trans us fun _ _ h => .inr h))
        clear c0 f0 hM1 hN c1 us hu1 hT1
        go_wp2_with fail
        go_roundw
        case rel => exact hg.out
        case measure => simp [intOf]; omega
      · have hn2 : (((⟨l.toArray⟩ : ByteArray)[i]'s1).toNat : Int) = 66 := by rw [hn]; rfl
        have c1 := Lib.hid (tText T s a e 1 wr hT hs (by omega))
        have hN := Lib.hid (fun w2 hT2 hb2 hu => hnext.out ({ q with bucket := (rdTxt s a e 1).2.2 }, (rdTxt s a e 1).1, (rdTxt s a e 1).2.1) pv w2 rfl (hI.step (y := ({ q with bucket := (rdTxt s a e 1).2.2 }, (rdTxt s a e 1).1, (rdTxt s a e 1).2.1)) hZ hZT hTb hT2 hb2 rfl hu))
        generalize rdTxt s a e 1 = x at *
        obtain ⟨a1, e1, n1⟩ := x
        dsimp only at c1 hN
        replace hI := Lib.hid hI
        clear hnext
        go_wp2_with fail
        refine c1.out.mono ?_
        rintro en w1 ⟨rfl, hT1, hu1⟩
        have hM1 := hu1.heap hb (by omega)
        obtain ⟨c0, f0⟩ := cells_of hM1
        have z : w1.cell? ⟨b, 2, none⟩ = (rqC q pv)[2]? := c0 2
        have zf := f0 2
        unfold rqC at z
        simp only [List.getElem?_toArray, List.getElem?_cons_succ, List.getElem?_cons_zero] at z
        have us := Upd.setCell (S := fun k => k = b) w1 (a := ⟨b, 2, none⟩) rfl (.string ⟨n1.toArray⟩)
        have hg := Lib.hid (hN.out (w1.setCell ⟨b, 2, none⟩ (.string ⟨n1.toArray⟩)) ⟨hT1.1, us.heap hT1.2 (by omega)⟩ (set_blk (j := 2) hM1 (.string ⟨n1.toArray⟩)) ((hu1.mono fun _ _ h => .inl h).trans us fun _ _ h => .inr h))
        clear c0 f0 hM1 hN c1 us hu1 hT1
        go_wp2_with fail
        go_roundw
        case rel => exact hg.out
        case measure => simp [intOf]; omega
      · have hn2 : (((⟨l.toArray⟩ : ByteArray)[i]'s1).toNat : Int) = 79 := by rw [hn]; rfl
        have c1 := Lib.hid (tText T s a e 1 wr hT hs (by omega))
        have hN := Lib.hid (fun w2 hT2 hb2 hu => hnext.out ({ q with object := (rdTxt s a e 1).2.2 }, (rdTxt s a e 1).1, (rdTxt s a e 1).2.1) pv w2 rfl (hI.step (y := ({ q with object := (rdTxt s a e 1).2.2 }, (rdTxt s a e 1).1, (rdTxt s a e 1).2.1)) hZ hZT hTb hT2 hb2 rfl hu))
        generalize rdTxt s a e 1 = x at *
        obtain ⟨a1, e1, n1⟩ := x
        dsimp only at c1 hN
        replace hI := Lib.hid hI
        clear hnext
        go_wp2_with fail
        refine c1.out.mono ?_
        rintro en w1 ⟨rfl, hT1, hu1⟩
        have hM1 := hu1.heap hb (by omega)
        obtain ⟨c0, f0⟩ := cells_of hM1
        have z : w1.cell? ⟨b, 3, none⟩ = (rqC q pv)[3]? := c0 3
        have zf := f0 3
        unfold rqC at z
        simp only [List.getElem?_toArray, List.getElem?_cons_succ, List.getElem?_cons_zero] at z
        have us := Upd.setCell (S := fun k => k = b) w1 (a := ⟨b, 3, none⟩) rfl (.string ⟨n1.toArray⟩)
        have hg := Lib.hid (hN.out (w1.setCell ⟨b, 3, none⟩ (.string ⟨n1.toArray⟩)) ⟨hT1.1, us.heap hT1.2 (by omega)⟩ (set_blk (j := 3) hM1 (.string ⟨n1.toArray⟩)) ((hu1.mono fun _ _ h => .inl h).trans us fun _ _ h => .inr h))
        clear c0 f0 hM1 hN c1 us hu1 hT1
        go_wp2_with fail
        go_roundw
        case rel => exact hg.out
        case measure => simp [intOf]; omega
      · have hn2 : (((⟨l.toArray⟩ : ByteArray)[i]'s1).toNat : Int) = 86 := by rw [hn]; rfl
        have c1 := Lib.hid (tText T s a e 1 wr hT hs (by omega))
        have hN := Lib.hid (fun w2 hT2 hb2 hu => hnext.out ({ q with version := (rdTxt s a e 1).2.2 }, (rdTxt s a e 1).1, (rdTxt s a e 1).2.1) pv w2 rfl (hI.step (y := ({ q with version := (rdTxt s a e 1).2.2 }, (rdTxt s a e 1).1, (rdTxt s a e 1).2.1)) hZ hZT hTb hT2 hb2 rfl hu))
        generalize rdTxt s a e 1 = x at *
        obtain ⟨a1, e1, n1⟩ := x
        dsimp only at c1 hN
        replace hI := Lib.hid hI
        clear hnext
        go_wp2_with fail
        refine c1.out.mono ?_
        rintro en w1 ⟨rfl, hT1, hu1⟩
        have hM1 := hu1.heap hb (by omega)
        obtain ⟨c0, f0⟩ := cells_of hM1
        have z : w1.cell? ⟨b, 4, none⟩ = (rqC q pv)[4]? := c0 4
        have zf := f0 4
        unfold rqC at z
        simp only [List.getElem?_toArray, List.getElem?_cons_succ, List.getElem?_cons_zero] at z
        have us := Upd.setCell (S := fun k => k = b) w1 (a := ⟨b, 4, none⟩) rfl (.string ⟨n1.toArray⟩)
        have hg := Lib.hid (hN.out (w1.setCell ⟨b, 4, none⟩ (.string ⟨n1.toArray⟩)) ⟨hT1.1, us.heap hT1.2 (by omega)⟩ (set_blk (j := 4) hM1 (.string ⟨n1.toArray⟩)) ((hu1.mono fun _ _ h => .inl h).trans us fun _ _ h => .inr h))
        clear c0 f0 hM1 hN c1 us hu1 hT1
        go_wp2_with fail
        go_roundw
        case rel => exact hg.out
        case measure => simp [intOf]; omega
      · have hn2 : (((⟨l.toArray⟩ : ByteArray)[i]'s1).toNat : Int) = 80 := by rw [hn]; rfl
        have c1 := Lib.hid (tText T s a e 1 wr hT hs (by omega))
        have hN := Lib.hid (fun w2 hT2 hb2 hu => hnext.out ({ q with pre := (rdTxt s a e 1).2.2 }, (rdTxt s a e 1).1, (rdTxt s a e 1).2.1) pv w2 rfl (hI.step (y := ({ q with pre := (rdTxt s a e 1).2.2 }, (rdTxt s a e 1).1, (rdTxt s a e 1).2.1)) hZ hZT hTb hT2 hb2 rfl hu))
        generalize rdTxt s a e 1 = x at *
        obtain ⟨a1, e1, n1⟩ := x
        dsimp only at c1 hN
        replace hI := Lib.hid hI
        clear hnext
        go_wp2_with fail
        refine c1.out.mono ?_
        rintro en w1 ⟨rfl, hT1, hu1⟩
        have hM1 := hu1.heap hb (by omega)
        obtain ⟨c0, f0⟩ := cells_of hM1
        have z : w1.cell? ⟨b, 5, none⟩ = (rqC q pv)[5]? := c0 5
        have zf := f0 5
        unfold rqC at z
        simp only [List.getElem?_toArray, List.getElem?_cons_succ, List.getElem?_cons_zero] at z
        have us := Upd.setCell (S := fun k => k = b) w1 (a := ⟨b, 5, none⟩) rfl (.string ⟨n1.toArray⟩)
        have hg := Lib.hid (hN.out (w1.setCell ⟨b, 5, none⟩ (.string ⟨n1.toArray⟩)) ⟨hT1.1, us.heap hT1.2 (by omega)⟩ (set_blk (j := 5) hM1 (.string ⟨n1.toArray⟩)) ((hu1.mono fun _ _ h => .inl h).trans us fun _ _ h => .inr h))
        clear c0 f0 hM1 hN c1 us hu1 hT1
        go_wp2_with fail
        go_roundw
        case rel => exact hg.out
        case measure => simp [intOf]; omega
      · have hn2 : (((⟨l.toArray⟩ : ByteArray)[i]'s1).toNat : Int) = 68 := by rw [hn]; rfl
        have c1 := Lib.hid (tText T s a e 1 wr hT hs (by omega))
        have hN := Lib.hid (fun w2 hT2 hb2 hu => hnext.out ({ q with delim := (rdTxt s a e 1).2.2 }, (rdTxt s a e 1).1, (rdTxt s a e 1).2.1) pv w2 rfl (hI.step (y := ({ q with delim := (rdTxt s a e 1).2.2 }, (rdTxt s a e 1).1, (rdTxt s a e 1).2.1)) hZ hZT hTb hT2 hb2 rfl hu))
        generalize rdTxt s a e 1 = x at *
        obtain ⟨a1, e1, n1⟩ := x
        dsimp only at c1 hN
        replace hI := Lib.hid hI
        clear hnext
        go_wp2_with fail
        refine c1.out.mono ?_
        rintro en w1 ⟨rfl, hT1, hu1⟩
        have hM1 := hu1.heap hb (by omega)
        obtain ⟨c0, f0⟩ := cells_of hM1
        have z : w1.cell? ⟨b, 6, none⟩ = (rqC q pv)[6]? := c0 6
        have zf := f0 6
        unfold rqC at z
        simp only [List.getElem?_toArray, List.getElem?_cons_succ, List.getElem?_cons_zero] at z
        have us := Upd.setCell (S := fun k => k = b) w1 (a := ⟨b, 6, none⟩) rfl (.string ⟨n1.toArray⟩)
        have hg := Lib.hid (hN.out (w1.setCell ⟨b, 6, none⟩ (.string ⟨n1.toArray⟩)) ⟨hT1.1, us.heap hT1.2 (by omega)⟩ (set_blk (j := 6) hM1 (.string ⟨n1.toArray⟩)) ((hu1.mono fun _ _ h => .inl h).trans us fun _ _ h => .inr h))
        clear c0 f0 hM1 hN c1 us hu1 hT1
        go_wp2_with fail
        go_roundw
        case rel => exact hg.out
        case measure => simp [intOf]; omega
      · have hn2 : (((⟨l.toArray⟩ : ByteArray)[i]'s1).toNat : Int) = 67 := by rw [hn]; rfl
        have c1 := Lib.hid (tNum T s a e 1 wr hT hs (by omega))
        have hgr : getR s 67 (q, a, e) = if (rdNum s a e 1).2.2 = 2 then ({ q with ck := 2, re := (rdTag s (rdNum s a e 1).1 (rdNum s a e 1).2.1).2.2.1, im := (rdTag s (rdNum s a e 1).1 (rdNum s a e 1).2.1).2.2.2 }, (rdTag s (rdNum s a e 1).1 (rdNum s a e 1).2.1).1, (rdTag s (rdNum s a e 1).1 (rdNum s a e 1).2.1).2.1) else ({ q with ck := (rdNum s a e 1).2.2 }, (rdNum s a e 1).1, (rdNum s a e 1).2.1) := rfl
        have hst := Lib.hid (fun (y : Rq × Nat × Int) w2 hT2 hb2 hp hu => hI.step (w2 := w2) (y := y) hZ hZT hTb hT2 hb2 hp hu)
        generalize rdNum s a e 1 = x at *
        obtain ⟨a1, e1, n1⟩ := x
        dsimp only at c1 hgr
        replace hgr := Lib.hid hgr
        replace hI := Lib.hid hI
        go_wp2_with fail
        refine c1.out.mono ?_
        rintro en w1 ⟨rfl, hT1, hu1⟩
        have hM1 := hu1.heap hb (by omega)
        obtain ⟨c0, f0⟩ := cells_of hM1
        have z : w1.cell? ⟨b, 8, none⟩ = (rqC q pv)[8]? := c0 8
        have zf := f0 8
        unfold rqC at z
        simp only [List.getElem?_toArray, List.getElem?_cons_succ, List.getElem?_cons_zero] at z
        have us := Upd.setCell (S := fun k => k = b) w1 (a := ⟨b, 8, none⟩) rfl (.int .i64 n1)
        have hM2 : (w1.setCell ⟨b, 8, none⟩ (.int .i64 n1)).heap[b]? = some (.cells (rqC { q with ck := n1 } pv) 30 (0, 0)) := set_blk (j := 8) hM1 (.int .i64 n1)
        have hT2 : TkAt (w1.setCell ⟨b, 8, none⟩ (.int .i64 n1)) T s a1 e1 := ⟨hT1.1, us.heap hT1.2 (by omega)⟩
        have hu2 : Upd (fun k => k = T ∨ k = b) wr (w1.setCell ⟨b, 8, none⟩ (.int .i64 n1)) := (hu1.mono fun _ _ h => .inl h).trans us fun _ _ h => .inr h
        have z2 : (w1.setCell ⟨b, 8, none⟩ (.int .i64 n1)).cell? ⟨b, 8, none⟩ = some (.int .i64 n1) := (cells_of hM2).1 8
        clear c0 f0 hM1 c1 us hu1 hT1
        by_cases h2 : n1 = 2
        · subst h2
          replace hgr := Lib.hid (hgr.out.trans (if_pos rfl))
          have c2 := Lib.hid (fun w h => tNum T s a1 e1 4 w h hs (by omega))
          unfold rdTag at hgr
          generalize rdNum s a1 e1 4 = x at *
          obtain ⟨a2, e2, n2⟩ := x
          dsimp only at c2 hgr
          have c3 := Lib.hid (fun w h => tNum T s a2 e2 4 w h hs (by omega))
          generalize rdNum s a2 e2 4 = x at *
          obtain ⟨a3, e3, n3⟩ := x
          dsimp only at c3 hgr
          obtain ⟨W2, hW2⟩ : ∃ W2, w1.setCell ⟨b, 8, none⟩ (.int .i64 2) = W2 := ⟨_, rfl⟩
          rw [hW2] at hM2 hT2 hu2 z2
          go_wp2_with fail
          refine (c2.out _ hT2).mono ?_
          rintro en w3 ⟨rfl, hT3, hu3⟩
          have hM3 := hu3.heap hM2 (by omega)
          have z3 : w3.cell? ⟨b, 9, none⟩ = some (.int .i64 q.re) := (cells_of hM3).1 9
          have zf3 := (cells_of hM3).2 9
          have us3 := Upd.setCell (S := fun k => k = b) w3 (a := ⟨b, 9, none⟩) rfl (.int .i64 n2)
          have hM4 : (w3.setCell ⟨b, 9, none⟩ (.int .i64 n2)).heap[b]? = some (.cells (rqC { q with ck := 2, re := n2 } pv) 30 (0, 0)) := set_blk (j := 9) hM3 (.int .i64 n2)
          have hT4 : TkAt (w3.setCell ⟨b, 9, none⟩ (.int .i64 n2)) T s a2 e2 := ⟨hT3.1, us3.heap hT3.2 (by omega)⟩
          have hu4 : Upd (fun k => k = T ∨ k = b) wr (w3.setCell ⟨b, 9, none⟩ (.int .i64 n2)) := (hu2.trans hu3 fun _ _ h => .inl h).trans us3 fun _ _ h => .inr h
          obtain ⟨W4, hW4⟩ : ∃ W4, w3.setCell ⟨b, 9, none⟩ (.int .i64 n2) = W4 := ⟨_, rfl⟩
          rw [hW4] at hM4 hT4 hu4
          clear hM3 us3 hT3 hu3 hu2 hT2 hM2 z2 z hW2 zf c2
          go_wp2_with fail
          refine (c3.out _ hT4).mono ?_
          rintro en w5 ⟨rfl, hT5, hu5⟩
          have hM5 := hu5.heap hM4 (by omega)
          have z5 : w5.cell? ⟨b, 10, none⟩ = some (.int .i64 q.im) := (cells_of hM5).1 10
          have zf5 := (cells_of hM5).2 10
          have us5 := Upd.setCell (S := fun k => k = b) w5 (a := ⟨b, 10, none⟩) rfl (.int .i64 n3)
          have hM6 : (w5.setCell ⟨b, 10, none⟩ (.int .i64 n3)).heap[b]? = some (.cells (rqC { q with ck := 2, re := n2, im := n3 } pv) 30 (0, 0)) := set_blk (j := 10) hM5 (.int .i64 n3)
          have hg := Lib.hid (hnext.out _ pv _ hgr.out (hst.out ({ q with ck := 2, re := n2, im := n3 }, a3, e3) _ ⟨hT5.1, us5.heap hT5.2 (by omega)⟩ hM6 rfl ((hu4.trans hu5 fun _ _ h => .inl h).trans us5 fun _ _ h => .inr h)))
          clear hM5 us5 hM6 hT5 hu5 hu4 hT4 hM4 hW4 z3 zf3 c3 hst hnext
          go_wp2_with fail
          go_roundw
          case rel => exact hg.out
          case measure => simp [intOf]; omega
        · have h2b : (n1 == 2) = false := by simp [h2]
          replace hgr := Lib.hid (hgr.out.trans (if_neg h2))
          have hg := Lib.hid (hnext.out _ pv _ hgr.out (hst.out ({ q with ck := n1 }, a1, e1) _ hT2 hM2 rfl hu2))
          clear hst hnext hM2 hT2 hu2
          go_wp2_with fail
          go_roundw
          case rel => exact hg.out
          case measure => simp [intOf]; omega
      · have hn2 : (((⟨l.toArray⟩ : ByteArray)[i]'s1).toNat : Int) = 73 := by rw [hn]; rfl
        have c1 := Lib.hid (tNum T s a e 8 wr hT hs (by omega))
        have hN := Lib.hid (fun w2 hT2 hb2 hu => hnext.out ({ q with id := (rdNum s a e 8).2.2 }, (rdNum s a e 8).1, (rdNum s a e 8).2.1) pv w2 rfl (hI.step (y := ({ q with id := (rdNum s a e 8).2.2 }, (rdNum s a e 8).1, (rdNum s a e 8).2.1)) hZ hZT hTb hT2 hb2 rfl hu))
        generalize rdNum s a e 8 = x at *
        obtain ⟨a1, e1, n1⟩ := x
        dsimp only at c1 hN
        replace hI := Lib.hid hI
        clear hnext
        go_wp2_with fail
        refine c1.out.mono ?_
        rintro en w1 ⟨rfl, hT1, hu1⟩
        have hM1 := hu1.heap hb (by omega)
        obtain ⟨c0, f0⟩ := cells_of hM1
        have z : w1.cell? ⟨b, 11, none⟩ = (rqC q pv)[11]? := c0 11
        have zf := f0 11
        unfold rqC at z
        simp only [List.getElem?_toArray, List.getElem?_cons_succ, List.getElem?_cons_zero] at z
        have us := Upd.setCell (S := fun k => k = b) w1 (a := ⟨b, 11, none⟩) rfl (.int .i64 n1)
        have hg := Lib.hid (hN.out (w1.setCell ⟨b, 11, none⟩ (.int .i64 n1)) ⟨hT1.1, us.heap hT1.2 (by omega)⟩ (set_blk (j := 11) hM1 (.int .i64 n1)) ((hu1.mono fun _ _ h => .inl h).trans us fun _ _ h => .inr h))
        clear c0 f0 hM1 hN c1 us hu1 hT1
        go_wp2_with fail
        go_roundw
        case rel => exact hg.out
        case measure => simp [intOf]; omega
      · have hn2 : (((⟨l.toArray⟩ : ByteArray)[i]'s1).toNat : Int) = 78 := by rw [hn]; rfl
        have c1 := Lib.hid (tNum T s a e 2 wr hT hs (by omega))
        have hN := Lib.hid (fun w2 hT2 hb2 hu => hnext.out ({ q with n := (rdNum s a e 2).2.2 }, (rdNum s a e 2).1, (rdNum s a e 2).2.1) pv w2 rfl (hI.step (y := ({ q with n := (rdNum s a e 2).2.2 }, (rdNum s a e 2).1, (rdNum s a e 2).2.1)) hZ hZT hTb hT2 hb2 rfl hu))
        generalize rdNum s a e 2 = x at *
        obtain ⟨a1, e1, n1⟩ := x
        dsimp only at c1 hN
        replace hI := Lib.hid hI
        clear hnext
        go_wp2_with fail
        refine c1.out.mono ?_
        rintro en w1 ⟨rfl, hT1, hu1⟩
        have hM1 := hu1.heap hb (by omega)
        obtain ⟨c0, f0⟩ := cells_of hM1
        have z : w1.cell? ⟨b, 12, none⟩ = (rqC q pv)[12]? := c0 12
        have zf := f0 12
        unfold rqC at z
        simp only [List.getElem?_toArray, List.getElem?_cons_succ, List.getElem?_cons_zero] at z
        have us := Upd.setCell (S := fun k => k = b) w1 (a := ⟨b, 12, none⟩) rfl (.int .i64 n1)
        have hg := Lib.hid (hN.out (w1.setCell ⟨b, 12, none⟩ (.int .i64 n1)) ⟨hT1.1, us.heap hT1.2 (by omega)⟩ (set_blk (j := 12) hM1 (.int .i64 n1)) ((hu1.mono fun _ _ h => .inl h).trans us fun _ _ h => .inr h))
        clear c0 f0 hM1 hN c1 us hu1 hT1
        go_wp2_with fail
        go_roundw
        case rel => exact hg.out
        case measure => simp [intOf]; omega
      · have hn2 : (((⟨l.toArray⟩ : ByteArray)[i]'s1).toNat : Int) = 76 := by rw [hn]; rfl
        have c1 := Lib.hid (tNum T s a e 1 wr hT hs (by omega))
        obtain ⟨z, hz, hz2⟩ := rdNum_nat s a e 1 (by omega)
        have hgr : getR s 76 (q, a, e) = ({ q with parts := (rdParts s (rdNum s a e 1).2.2.toNat (rdNum s a e 1).1 (rdNum s a e 1).2.1 q.parts).2.2 }, (rdParts s (rdNum s a e 1).2.2.toNat (rdNum s a e 1).1 (rdNum s a e 1).2.1 q.parts).1, (rdParts s (rdNum s a e 1).2.2.toNat (rdNum s a e 1).1 (rdNum s a e 1).2.1 q.parts).2.1) := rfl
        rw [hz, Int.toNat_natCast] at hgr
        rw [hz] at c1
        clear hz
        generalize rdNum s a e 1 = x at *
        obtain ⟨a1, e1, n1⟩ := x
        dsimp only at c1 hgr
        obtain ⟨R, hRR⟩ : ∃ R, rdParts s z a1 e1 q.parts = R := ⟨_, rfl⟩
        rw [hRR] at hgr
        replace hRR := Lib.hid hRR
        replace hnext := Lib.hid (fun pv2 w2 h => hnext.out _ pv2 w2 hgr h)
        clear hgr
        have hii : Hid ((Try.prog.info? 3).map (fun i => (i.zero, i.size, i.bytes)) = some (some (.int .i64 0), 1, 8)) := Lib.hid (by kernel_rfl)
        replace hI := Lib.hid hI
        go_wp2_with fail
        refine c1.out.mono ?_
        rintro en w1 ⟨rfl, hT1, hu1⟩
        have hI1 : RdI w w.heap.size T b s ({ q with parts := q.parts }, a1, e1) pv w1 := hI.out.step hZ hZT hTb hT1 (hu1.heap hb (by omega)) rfl (hu1.mono fun _ _ h => .inl h)
        clear hu1 hT1 c1 hI hb hT hbl
        have hpl2 : q.parts.length ≤ 100000 := hpl
        go_wp2_with fail
        go_loopw [9] (fun jv wr => ∃ (k : Nat) (pv' : Value) (ps : List Int) (a' : Nat) (e' : Int), jv = .int .i64 (k : Int) ∧ k ≤ z ∧ ps.length ≤ q.parts.length + k ∧ Hid (rdParts s (z - k) a' e' ps = R) ∧ RdI w w.heap.size T b s ({ q with parts := ps }, a', e') pv' wr) (fun jv _ => z - (intOf jv).toNat)
        case atStart => exact ⟨0, pv, q.parts, a1, e1, rfl, Nat.zero_le _, Nat.le_refl _, hRR, hI1⟩
        case round =>
          clear hI1 hRR
          obtain ⟨k, pv', ps, a', e', rfl, hk, hps, hRR, hI⟩ := hrel
          obtain ⟨hT, hb, ho, hZZ, hU⟩ := id hI
          dsimp only at hT hb ho
          have xe : wr.cell? ⟨T, 2, none⟩ = some (.int .i64 e') := (cells_of hT.2).1 2
          by_cases hlt : k < z
          · have hltI : (k : Int) < (z : Int) := by omega
            obtain ⟨m, hm⟩ : ∃ m, z - k = m + 1 := ⟨z - k - 1, by omega⟩
            rw [hm] at hRR
            by_cases he : e' = 0
            · subst he
              have hle0 := hT.1
              have c3 := Lib.hid (show ∀ w, TkAt w T s a' 0 → Calls Try.prog 34 #[.pointer (some ⟨T, 0, none⟩), .int .i64 1] w (Tkd T s (rdNum s a' 0 1).1 (rdNum s a' 0 1).2.1 (.int .i64 (rdNum s a' 0 1).2.2) w) from fun w h => tNum T s a' 0 1 w h hs (by omega))
              have hRR2 : Hid (rdParts s m (rdNum s a' 0 1).1 (rdNum s a' 0 1).2.1 (ps ++ [(rdNum s a' 0 1).2.2]) = R) := Lib.hid (by have := hRR.out; unfold rdParts at this; rwa [if_pos rfl] at this)
              generalize rdNum s a' 0 1 = x at *
              obtain ⟨a3, e3, n3⟩ := x
              dsimp only at c3 hRR2
              have hTd : TkAt wr.drew T s a' 0 := ⟨hT.1, (Upd.drew Non _).heap hT.2 fun h => h⟩
              have db := (Upd.drew Non _).heap hb fun h => h
              have dZ := (Upd.drew Non _).heap hZZ fun h => h
              have hod := (Upd.drew Non wr).owns ho fun _ _ h => h
              have hUd := hU.then_drew
              have zd : wr.drew.cell? ⟨b, 13, none⟩ = some pv' := (cells_of db).1 13
              have hwb := heap_lt hb
              have hlp : ps.length ≤ 200000 := by omega
              clear hRR hT hb ho hZZ hU
              replace hI := Lib.hid hI
              go_wp2_with fail
              refine wp_region_held_drew (S := (fun w' => w'.heap[w.heap.size]? = some (.cells (rqC zeroQ (.slice none 0 0)) 30 (0, 0)))) (by kernel_rfl) (by (try dsimp only); exact dZ) (fun hHeld => ?_)
              (refine wpAnyH_take (i := 0) (oi := ?oi_1_0) (v := ?v_1_0) ?ho_1_0 ?hs_1_0 ?hf_1_0 ?hr_1_0 ?hQ_1_0 ?hy_1_0 ?hS_1_0 ?rest_1_0; (case hr_1_0 => kernel_rfl); (case hf_1_0 => kernel_rfl); (case hs_1_0 => kernel_rfl); (case ho_1_0 => (simp only [List.getElem?_toArray, List.getElem?_cons_succ, List.getElem?_cons_zero]; rfl)); (case hS_1_0 => assumption); (case hQ_1_0 => exact fun _ _ _ h => h); (case hy_1_0 => (refine Or.inl ⟨by rfl, ?_⟩; (intro w hSw; (try dsimp only at hSw); go_simp) <;> with_reducible rfl)); (try simp only [Act.put, List.setIfInBounds_toArray, List.set_cons_zero, List.set_cons_succ]))
              (refine wpAnyH_take (i := 2) (oi := ?oi_1_2) (v := ?v_1_2) ?ho_1_2 ?hs_1_2 ?hf_1_2 ?hr_1_2 ?hQ_1_2 ?hy_1_2 ?hS_1_2 ?rest_1_2; (case hr_1_2 => kernel_rfl); (case hf_1_2 => kernel_rfl); (case hs_1_2 => kernel_rfl); (case ho_1_2 => (simp only [List.getElem?_toArray, List.getElem?_cons_succ, List.getElem?_cons_zero]; rfl)); (case hS_1_2 => assumption); (case hQ_1_2 => exact fun _ _ _ h => h); (case hy_1_2 => (refine Or.inl ⟨by rfl, ?_⟩; (intro w hSw; (try dsimp only at hSw); go_simp) <;> with_reducible rfl)); (try simp only [Act.put, List.setIfInBounds_toArray, List.set_cons_zero, List.set_cons_succ]))
              refine wpAnyH_ready (rs := [1, 3]) (by kernel_rfl) (by simp) ?_
              refine AllReadyH.cons (o := ?oA) ?hA ?sA (AllReadyH.cons (o := ?oB) ?hB ?sB AllReadyH.nil)
              case hA => (simp only [List.getElem?_toArray, List.getElem?_cons_succ, List.getElem?_cons_zero]; rfl)
              case hB => (simp only [List.getElem?_toArray, List.getElem?_cons_succ, List.getElem?_cons_zero]; rfl)
              case sA =>
                intro K hK
                go_simp
                refine hK.out _ _ (by exact dZ) (fun hHeld => ?_)
                clear hK K
                try simp only [Act.put, List.setIfInBounds_toArray, List.set_cons_zero, List.set_cons_succ]
                (refine wpAnyH_ready (rs := [3]) (by kernel_rfl) (by simp) ?_; refine AllReadyH.cons (o := ?oo_2_3) ?hoo_2_3 ?hst_2_3 AllReadyH.nil; (case hoo_2_3 => (simp only [List.getElem?_toArray, List.getElem?_cons_succ, List.getElem?_cons_zero]; rfl)); intro K hK; go_simp; ((go_at_call 34; (with_reducible refine (c3.out _ hTd).mono ?_); rintro en w4 ⟨rfl, hT4, hu4⟩; have g1 := hu4.heap dZ (by omega))); (try go_wp2_with fail); refine hK.out _ _ (by (try dsimp only); exact g1) (fun hHeld => ?_); clear hK K; (try simp only [Act.put, List.setIfInBounds_toArray, List.set_cons_zero, List.set_cons_succ]))
                have gb1 := hu4.heap db (by omega)
                have ho4 := hu4.owns hod (fun j hj e => by have := own_ge hod hj; omega)
                have z4 : w4.cell? ⟨b, 13, none⟩ = some pv' := (cells_of gb1).1 13
                have hux := (Upd.refl Non w4).then_alloc (.cells #[.int .i64 n3] 3)
                have gw := hux.heap g1 fun h => h
                have zw := hux.cell z4 fun h => h
                have hz4 : wr.heap.size ≤ w4.heap.size := hu4.size
                (refine wpAnyH_ready (rs := [4]) (by kernel_rfl) (by simp) ?_; refine AllReadyH.cons (o := ?oo_3_4) ?hoo_3_4 ?hst_3_4 AllReadyH.nil; (case hoo_3_4 => (simp only [List.getElem?_toArray, List.getElem?_cons_succ, List.getElem?_cons_zero]; rfl)); intro K hK; go_simp; (skip); (try go_wp2_with fail); refine hK.out _ _ (by (try dsimp only); exact gw) (fun hHeld => ?_); clear hK K; (try simp only [Act.put, List.setIfInBounds_toArray, List.set_cons_zero, List.set_cons_succ]))
                (refine wpAnyH_ready (rs := [5]) (by kernel_rfl) (by simp) ?_; refine AllReadyH.cons (o := ?oo_4_5) ?hoo_4_5 ?hst_4_5 AllReadyH.nil; (case hoo_4_5 => (simp only [List.getElem?_toArray, List.getElem?_cons_succ, List.getElem?_cons_zero]; rfl)); intro K hK; ((go_must (refine step_app1p rfl _ _ 28 rfl (b + 1) 3 (.int .i64 0) 1 8 Try.underlying28 hii.out rfl pv' ps.length (ps.map (.int .i64)) rfl ho4 [.int .i64 n3] w4.heap.size rfl rfl rfl (by intro u hu; rw [List.mem_singleton.1 hu]; rfl) (by unfold maxLen; omega) (by omega) (by omega) ?_); intro v6 w6 ho6 hu6 hf6; have g6 := hu6.heap g1 (fun h => by have := own_ge ho4 h; omega); have gb6 := hu6.heap gb1 (fun h => by have := own_ge ho4 h; omega); have gT6 := hu6.heap hT4.2 (fun h => by have := own_ge ho4 h; omega))); (try go_wp2_with fail); refine hK.out _ _ (by (try dsimp only); exact g6) (fun hHeld => ?_); clear hK K; (try simp only [Act.put, List.setIfInBounds_toArray, List.set_cons_zero, List.set_cons_succ]))
                (refine wpAnyH_take (i := 6) (oi := ?oi_5_6) (v := ?v_5_6) ?ho_5_6 ?hs_5_6 ?hf_5_6 ?hr_5_6 ?hQ_5_6 ?hy_5_6 ?hS_5_6 ?rest_5_6; (case hr_5_6 => kernel_rfl); (case hf_5_6 => kernel_rfl); (case hs_5_6 => kernel_rfl); (case ho_5_6 => (simp only [List.getElem?_toArray, List.getElem?_cons_succ, List.getElem?_cons_zero]; rfl)); (case hS_5_6 => assumption); (case hQ_5_6 => exact fun _ _ _ h => h); (case hy_5_6 => (refine Or.inl ⟨by rfl, ?_⟩; (intro w hSw; (try dsimp only at hSw); go_simp) <;> with_reducible rfl)); (try simp only [Act.put, List.setIfInBounds_toArray, List.set_cons_zero, List.set_cons_succ]))
                (refine wpAnyH_ready (rs := [7]) (by kernel_rfl) (by simp) ?_; refine AllReadyH.cons (o := ?oo_5_7) ?hoo_5_7 ?hst_5_7 AllReadyH.nil; (case hoo_5_7 => (simp only [List.getElem?_toArray, List.getElem?_cons_succ, List.getElem?_cons_zero]; rfl)); intro K hK; ((refine step_store_cell rfl 28 _ _ rfl b 13 v6 _ _ rfl rfl gb6 (show 13 < 14 by omega) rfl (by obtain ⟨_, aa, cc, rfl, -⟩ := has_of_owns ho6; rfl) (by obtain ⟨_, aa, cc, rfl, -⟩ := has_of_owns ho6; rfl) ?_; intro w7 hb7 hu7; have g7 := hu7.heap g6 (by omega))); (try go_wp2_with fail); refine hK.out _ _ (by (try dsimp only); first | exact g7 | exact g6) (fun hHeld => ?_); clear hK K; (try simp only [Act.put, List.setIfInBounds_toArray, List.set_cons_zero, List.set_cons_succ]))
                refine wpAnyH_done (by kernel_rfl) ?_ _
                have hU7 : Upd Non w w7 := ((hUd.trans hu4 fun j hj h => by omega).trans hu6 fun j hj h => by have := own_ge ho4 h; omega).trans hu7 fun j hj h => by omega
                have hT7 : TkAt w7 T s a3 e3 := ⟨hT4.1, hu7.heap gT6 (by omega)⟩
                have ho7 := hu7.owns ho6 (fun j hj e => by have := own_ge ho6 hj; omega)
                have ho8 : w7.ownsRow (b + 1) 3 1 v6 (ps ++ [n3]).length ((ps ++ [n3]).map (.int .i64)) := by rw [List.length_append, List.map_append]; exact ho7
                have hI7 : RdI w w.heap.size T b s ({ q with parts := ps ++ [n3] }, a3, e3) v6 w7 := ⟨hT7, hb7, ho8, g7, hU7⟩
                clear hb7 ho7 ho8 ho6 hu6 hu7 hf6 gb6 gT6 hux gb1 ho4 hT4 hu4 z4 gw zw g1 db hod zd hTd c3 hT7 g7 g6 hU7 dZ hUd
                go_wp2_with fail
                go_roundw
                case rel => exact ⟨k + 1, v6, ps ++ [n3], a3, e3, by go_num, by omega, by rw [List.length_append, List.length_singleton]; omega, by rw [show z - (k + 1) = m by omega]; exact hRR2, hI7⟩
                case measure => simp [intOf]; omega
              case sB =>
                intro K hK
                go_simp
                (go_at_call 34; (with_reducible refine (c3.out _ hTd).mono ?_); rintro en w4 ⟨rfl, hT4, hu4⟩; have g1 := hu4.heap dZ (by omega))
                have gb1 := hu4.heap db (by omega)
                have ho4 := hu4.owns hod (fun j hj e => by have := own_ge hod hj; omega)
                have z4 : w4.cell? ⟨b, 13, none⟩ = some pv' := (cells_of gb1).1 13
                have hux := (Upd.refl Non w4).then_alloc (.cells #[.int .i64 n3] 3)
                have gw := hux.heap g1 fun h => h
                have zw := hux.cell z4 fun h => h
                have hz4 : wr.heap.size ≤ w4.heap.size := hu4.size
                try go_wp2_with fail
                refine hK.out _ _ (by exact g1) (fun hHeld => ?_)
                clear hK K
                try simp only [Act.put, List.setIfInBounds_toArray, List.set_cons_zero, List.set_cons_succ]
                refine wpAnyH_ready (rs := [1, 4]) (by kernel_rfl) (by simp) ?_
                refine AllReadyH.cons (o := ?oC) ?hC ?sC (AllReadyH.cons (o := ?oD) ?hD ?sD AllReadyH.nil)
                case hC => (simp only [List.getElem?_toArray, List.getElem?_cons_succ, List.getElem?_cons_zero]; rfl)
                case hD => (simp only [List.getElem?_toArray, List.getElem?_cons_succ, List.getElem?_cons_zero]; rfl)
                case sC =>
                  intro K hK
                  go_simp
                  refine hK.out _ _ (by exact g1) (fun hHeld => ?_)
                  clear hK K
                  try simp only [Act.put, List.setIfInBounds_toArray, List.set_cons_zero, List.set_cons_succ]
                  (refine wpAnyH_ready (rs := [4]) (by kernel_rfl) (by simp) ?_; refine AllReadyH.cons (o := ?oo_6_4) ?hoo_6_4 ?hst_6_4 AllReadyH.nil; (case hoo_6_4 => (simp only [List.getElem?_toArray, List.getElem?_cons_succ, List.getElem?_cons_zero]; rfl)); intro K hK; go_simp; (skip); (try go_wp2_with fail); refine hK.out _ _ (by (try dsimp only); exact gw) (fun hHeld => ?_); clear hK K; (try simp only [Act.put, List.setIfInBounds_toArray, List.set_cons_zero, List.set_cons_succ]))
                  (refine wpAnyH_ready (rs := [5]) (by kernel_rfl) (by simp) ?_; refine AllReadyH.cons (o := ?oo_7_5) ?hoo_7_5 ?hst_7_5 AllReadyH.nil; (case hoo_7_5 => (simp only [List.getElem?_toArray, List.getElem?_cons_succ, List.getElem?_cons_zero]; rfl)); intro K hK; ((go_must (refine step_app1p rfl _ _ 28 rfl (b + 1) 3 (.int .i64 0) 1 8 Try.underlying28 hii.out rfl pv' ps.length (ps.map (.int .i64)) rfl ho4 [.int .i64 n3] w4.heap.size rfl rfl rfl (by intro u hu; rw [List.mem_singleton.1 hu]; rfl) (by unfold maxLen; omega) (by omega) (by omega) ?_); intro v6 w6 ho6 hu6 hf6; have g6 := hu6.heap g1 (fun h => by have := own_ge ho4 h; omega); have gb6 := hu6.heap gb1 (fun h => by have := own_ge ho4 h; omega); have gT6 := hu6.heap hT4.2 (fun h => by have := own_ge ho4 h; omega))); (try go_wp2_with fail); refine hK.out _ _ (by (try dsimp only); exact g6) (fun hHeld => ?_); clear hK K; (try simp only [Act.put, List.setIfInBounds_toArray, List.set_cons_zero, List.set_cons_succ]))
                  (refine wpAnyH_take (i := 6) (oi := ?oi_8_6) (v := ?v_8_6) ?ho_8_6 ?hs_8_6 ?hf_8_6 ?hr_8_6 ?hQ_8_6 ?hy_8_6 ?hS_8_6 ?rest_8_6; (case hr_8_6 => kernel_rfl); (case hf_8_6 => kernel_rfl); (case hs_8_6 => kernel_rfl); (case ho_8_6 => (simp only [List.getElem?_toArray, List.getElem?_cons_succ, List.getElem?_cons_zero]; rfl)); (case hS_8_6 => assumption); (case hQ_8_6 => exact fun _ _ _ h => h); (case hy_8_6 => (refine Or.inl ⟨by rfl, ?_⟩; (intro w hSw; (try dsimp only at hSw); go_simp) <;> with_reducible rfl)); (try simp only [Act.put, List.setIfInBounds_toArray, List.set_cons_zero, List.set_cons_succ]))
                  (refine wpAnyH_ready (rs := [7]) (by kernel_rfl) (by simp) ?_; refine AllReadyH.cons (o := ?oo_8_7) ?hoo_8_7 ?hst_8_7 AllReadyH.nil; (case hoo_8_7 => (simp only [List.getElem?_toArray, List.getElem?_cons_succ, List.getElem?_cons_zero]; rfl)); intro K hK; ((refine step_store_cell rfl 28 _ _ rfl b 13 v6 _ _ rfl rfl gb6 (show 13 < 14 by omega) rfl (by obtain ⟨_, aa, cc, rfl, -⟩ := has_of_owns ho6; rfl) (by obtain ⟨_, aa, cc, rfl, -⟩ := has_of_owns ho6; rfl) ?_; intro w7 hb7 hu7; have g7 := hu7.heap g6 (by omega))); (try go_wp2_with fail); refine hK.out _ _ (by (try dsimp only); first | exact g7 | exact g6) (fun hHeld => ?_); clear hK K; (try simp only [Act.put, List.setIfInBounds_toArray, List.set_cons_zero, List.set_cons_succ]))
                  refine wpAnyH_done (by kernel_rfl) ?_ _
                  have hU7 : Upd Non w w7 := ((hUd.trans hu4 fun j hj h => by omega).trans hu6 fun j hj h => by have := own_ge ho4 h; omega).trans hu7 fun j hj h => by omega
                  have hT7 : TkAt w7 T s a3 e3 := ⟨hT4.1, hu7.heap gT6 (by omega)⟩
                  have ho7 := hu7.owns ho6 (fun j hj e => by have := own_ge ho6 hj; omega)
                  have ho8 : w7.ownsRow (b + 1) 3 1 v6 (ps ++ [n3]).length ((ps ++ [n3]).map (.int .i64)) := by rw [List.length_append, List.map_append]; exact ho7
                  have hI7 : RdI w w.heap.size T b s ({ q with parts := ps ++ [n3] }, a3, e3) v6 w7 := ⟨hT7, hb7, ho8, g7, hU7⟩
                  clear hb7 ho7 ho8 ho6 hu6 hu7 hf6 gb6 gT6 hux gb1 ho4 hT4 hu4 z4 gw zw g1 db hod zd hTd c3 hT7 g7 g6 hU7 dZ hUd
                  go_wp2_with fail
                  go_roundw
                  case rel => exact ⟨k + 1, v6, ps ++ [n3], a3, e3, by go_num, by omega, by rw [List.length_append, List.length_singleton]; omega, by rw [show z - (k + 1) = m by omega]; exact hRR2, hI7⟩
                  case measure => simp [intOf]; omega
                case sD =>
                  intro K hK
                  go_simp
                  refine hK.out _ _ (by exact gw) (fun hHeld => ?_)
                  clear hK K
                  try simp only [Act.put, List.setIfInBounds_toArray, List.set_cons_zero, List.set_cons_succ]
                  (refine wpAnyH_ready (rs := [1]) (by kernel_rfl) (by simp) ?_; refine AllReadyH.cons (o := ?oo_9_1) ?hoo_9_1 ?hst_9_1 AllReadyH.nil; (case hoo_9_1 => (simp only [List.getElem?_toArray, List.getElem?_cons_succ, List.getElem?_cons_zero]; rfl)); intro K hK; go_simp; (skip); (try go_wp2_with fail); refine hK.out _ _ (by (try dsimp only); exact gw) (fun hHeld => ?_); clear hK K; (try simp only [Act.put, List.setIfInBounds_toArray, List.set_cons_zero, List.set_cons_succ]))
                  (refine wpAnyH_ready (rs := [5]) (by kernel_rfl) (by simp) ?_; refine AllReadyH.cons (o := ?oo_10_5) ?hoo_10_5 ?hst_10_5 AllReadyH.nil; (case hoo_10_5 => (simp only [List.getElem?_toArray, List.getElem?_cons_succ, List.getElem?_cons_zero]; rfl)); intro K hK; ((go_must (refine step_app1p rfl _ _ 28 rfl (b + 1) 3 (.int .i64 0) 1 8 Try.underlying28 hii.out rfl pv' ps.length (ps.map (.int .i64)) rfl ho4 [.int .i64 n3] w4.heap.size rfl rfl rfl (by intro u hu; rw [List.mem_singleton.1 hu]; rfl) (by unfold maxLen; omega) (by omega) (by omega) ?_); intro v6 w6 ho6 hu6 hf6; have g6 := hu6.heap g1 (fun h => by have := own_ge ho4 h; omega); have gb6 := hu6.heap gb1 (fun h => by have := own_ge ho4 h; omega); have gT6 := hu6.heap hT4.2 (fun h => by have := own_ge ho4 h; omega))); (try go_wp2_with fail); refine hK.out _ _ (by (try dsimp only); exact g6) (fun hHeld => ?_); clear hK K; (try simp only [Act.put, List.setIfInBounds_toArray, List.set_cons_zero, List.set_cons_succ]))
                  (refine wpAnyH_take (i := 6) (oi := ?oi_11_6) (v := ?v_11_6) ?ho_11_6 ?hs_11_6 ?hf_11_6 ?hr_11_6 ?hQ_11_6 ?hy_11_6 ?hS_11_6 ?rest_11_6; (case hr_11_6 => kernel_rfl); (case hf_11_6 => kernel_rfl); (case hs_11_6 => kernel_rfl); (case ho_11_6 => (simp only [List.getElem?_toArray, List.getElem?_cons_succ, List.getElem?_cons_zero]; rfl)); (case hS_11_6 => assumption); (case hQ_11_6 => exact fun _ _ _ h => h); (case hy_11_6 => (refine Or.inl ⟨by rfl, ?_⟩; (intro w hSw; (try dsimp only at hSw); go_simp) <;> with_reducible rfl)); (try simp only [Act.put, List.setIfInBounds_toArray, List.set_cons_zero, List.set_cons_succ]))
                  (refine wpAnyH_ready (rs := [7]) (by kernel_rfl) (by simp) ?_; refine AllReadyH.cons (o := ?oo_11_7) ?hoo_11_7 ?hst_11_7 AllReadyH.nil; (case hoo_11_7 => (simp only [List.getElem?_toArray, List.getElem?_cons_succ, List.getElem?_cons_zero]; rfl)); intro K hK; ((refine step_store_cell rfl 28 _ _ rfl b 13 v6 _ _ rfl rfl gb6 (show 13 < 14 by omega) rfl (by obtain ⟨_, aa, cc, rfl, -⟩ := has_of_owns ho6; rfl) (by obtain ⟨_, aa, cc, rfl, -⟩ := has_of_owns ho6; rfl) ?_; intro w7 hb7 hu7; have g7 := hu7.heap g6 (by omega))); (try go_wp2_with fail); refine hK.out _ _ (by (try dsimp only); first | exact g7 | exact g6) (fun hHeld => ?_); clear hK K; (try simp only [Act.put, List.setIfInBounds_toArray, List.set_cons_zero, List.set_cons_succ]))
                  refine wpAnyH_done (by kernel_rfl) ?_ _
                  have hU7 : Upd Non w w7 := ((hUd.trans hu4 fun j hj h => by omega).trans hu6 fun j hj h => by have := own_ge ho4 h; omega).trans hu7 fun j hj h => by omega
                  have hT7 : TkAt w7 T s a3 e3 := ⟨hT4.1, hu7.heap gT6 (by omega)⟩
                  have ho7 := hu7.owns ho6 (fun j hj e => by have := own_ge ho6 hj; omega)
                  have ho8 : w7.ownsRow (b + 1) 3 1 v6 (ps ++ [n3]).length ((ps ++ [n3]).map (.int .i64)) := by rw [List.length_append, List.map_append]; exact ho7
                  have hI7 : RdI w w.heap.size T b s ({ q with parts := ps ++ [n3] }, a3, e3) v6 w7 := ⟨hT7, hb7, ho8, g7, hU7⟩
                  clear hb7 ho7 ho8 ho6 hu6 hu7 hf6 gb6 gT6 hux gb1 ho4 hT4 hu4 z4 gw zw g1 db hod zd hTd c3 hT7 g7 g6 hU7 dZ hUd
                  go_wp2_with fail
                  go_roundw
                  case rel => exact ⟨k + 1, v6, ps ++ [n3], a3, e3, by go_num, by omega, by rw [List.length_append, List.length_singleton]; omega, by rw [show z - (k + 1) = m by omega]; exact hRR2, hI7⟩
                  case measure => simp [intOf]; omega
            · have heb : (e' == 0) = false := by simp [he]
              rw [rdParts_err s _ _ _ _ he] at hRR
              have hRR2 : (a', e', ps) = R := hRR.out
              subst hRR2
              have hg := Lib.hid (hnext.out pv' wr hI)
              clear hI hT hb ho hZZ hU
              go_wp2_with fail
              go_roundw
              case rel => exact hg.out
              case measure => simp [intOf]; omega
          · have hltI : ¬ (k : Int) < (z : Int) := by omega
            obtain rfl : k = z := by omega
            rw [Nat.sub_self] at hRR
            have hRR2 : (a', e', ps) = R := hRR.out
            subst hRR2
            have hg := Lib.hid (hnext.out pv' wr hI)
            clear hI hT hb ho hZZ hU
            go_wp2_with fail
            go_roundw
            case rel => exact hg.out
            case measure => simp [intOf]; omega
      · have hn2 : (((⟨l.toArray⟩ : ByteArray)[i]'s1).toNat : Int) = 88 := by rw [hn]; rfl
        have c1 := Lib.hid (tText T s a e 2 wr hT hs (by omega))
        have hN := Lib.hid (fun w2 hT2 hb2 hu => hnext.out ({ q with body := (rdTxt s a e 2).2.2 }, (rdTxt s a e 2).1, (rdTxt s a e 2).2.1) pv w2 rfl (hI.step (y := ({ q with body := (rdTxt s a e 2).2.2 }, (rdTxt s a e 2).1, (rdTxt s a e 2).2.1)) hZ hZT hTb hT2 hb2 rfl hu))
        generalize rdTxt s a e 2 = x at *
        obtain ⟨a1, e1, n1⟩ := x
        dsimp only at c1 hN
        replace hI := Lib.hid hI
        clear hnext
        go_wp2_with fail
        refine c1.out.mono ?_
        rintro en w1 ⟨rfl, hT1, hu1⟩
        have hM1 := hu1.heap hb (by omega)
        obtain ⟨c0, f0⟩ := cells_of hM1
        have z : w1.cell? ⟨b, 7, none⟩ = (rqC q pv)[7]? := c0 7
        have zf := f0 7
        unfold rqC at z
        simp only [List.getElem?_toArray, List.getElem?_cons_succ, List.getElem?_cons_zero] at z
        have us := Upd.setCell (S := fun k => k = b) w1 (a := ⟨b, 7, none⟩) rfl (.string ⟨n1.toArray⟩)
        have hg := Lib.hid (hN.out (w1.setCell ⟨b, 7, none⟩ (.string ⟨n1.toArray⟩)) ⟨hT1.1, us.heap hT1.2 (by omega)⟩ (set_blk (j := 7) hM1 (.string ⟨n1.toArray⟩)) ((hu1.mono fun _ _ h => .inl h).trans us fun _ _ h => .inr h))
        clear c0 f0 hM1 hN c1 us hu1 hT1
        go_wp2_with fail
        go_roundw
        case rel => exact hg.out
        case measure => simp [intOf]; omega
    · obtain rfl : i = l.length := by omega
      have hltI : ¬ ((l.length : Int) < (l.length : Int)) := by omega
      rw [List.take_length] at hx
      have hlx : lastR s = x := hlast.out.trans hx.out
      have hsm : smallQ x.1 := by rw [← hx.out]; exact getAllR_small hs l q0 hs0
      have hid : idOk x.1 := by rw [← hx.out]; exact getAllR_id s l q0 hi0
      have hread : Hid (readR s = if rdEnd s x.2.1 x.2.2 = 0 ∧ rightQ x.1 ∧ putQ x.1 = s then some x.1 else none) := Lib.hid (by unfold readR; rw [hlx])
      obtain ⟨hT, hb, ho, hz, hU⟩ := hI
      have hno : Hid (readR s = none → ∀ w', Upd Non w w' → PR (.returned (.tuple #[.agg #[.int .i64 0, .int .i64 0, .string ⟨#[]⟩, .string ⟨#[]⟩, .string ⟨#[]⟩, .string ⟨#[]⟩, .string ⟨#[]⟩, .string ⟨#[]⟩, .int .i64 0, .int .i64 0, .int .i64 0, .int .i64 0, .int .i64 0, .slice none 0 0], .int .i64 4])) w') := Lib.hid (fun h w' hu => by
        rw [← hPR.out]
        refine ⟨.slice none 0 0, ?_, ?_, fun k hk => by simp [At, Value.ownBlock] at hk, hu⟩
        · rw [h]; rfl
        · rw [h]; exact has_of_owns (World.ownsRow_nil _ (b + 1) 3 1))
      have hyes : Hid (readR s = some x.1 → ∀ w', Ints w' pv x.1.parts → Upd (fun k => k = w.heap.size) wr w' → PR (.returned (.tuple #[rqV x.1 pv, .int .i64 0])) w') := Lib.hid (fun h w' hI hu => by
        rw [← hPR.out]
        refine ⟨pv, ?_, ?_, fun k hk => ⟨?_, ?_⟩, hU.trans hu fun j hj h => by omega⟩
        · rw [h]; rfl
        · rw [h]; exact hI
        · have := own_ge ho hk; omega
        · have := own_lt ho hk; have := hu.size; omega)
      have hII : Ints wr pv x.1.parts := has_of_owns ho
      have cE := Lib.hid (fun w => refEnd s x.2.1 x.2.2 w)
      have cC := Lib.hid (fun w' (hu : Upd Non wr w') => rRight x.1 pv w' (hII.non hu) hsm)
      have cP := Lib.hid (fun w' (hu : Upd Non wr w') (h : fitsQ x.1) => rPut x.1 pv w' (hII.non hu) (fun k hk => Nat.lt_of_lt_of_le (own_lt ho hk) hu.size) h hid)
      have hnw : ∀ k, At pv k → k ≠ w.heap.size := fun k hk => by have := own_ge ho hk; omega
      have t0 : wr.cell? ⟨T, 0, none⟩ = some (.string ⟨s.toArray⟩) := (cells_of hT.2).1 0
      have t1 : wr.cell? ⟨T, 1, none⟩ = some (.int .i64 x.2.1) := (cells_of hT.2).1 1
      have t2 : wr.cell? ⟨T, 2, none⟩ = some (.int .i64 x.2.2) := (cells_of hT.2).1 2
      clear hlast hx hlx hPR hsm hin hq0 hs0 hT ho hid
      obtain ⟨q, a, e⟩ := x
      dsimp only at *
      have hszz : Hid ((Try.prog.info? 30).map (·.size) = some (#[.int .i64 0, .int .i64 0, .string ⟨#[]⟩, .string ⟨#[]⟩, .string ⟨#[]⟩, .string ⟨#[]⟩, .string ⟨#[]⟩, .string ⟨#[]⟩, .int .i64 0, .int .i64 0, .int .i64 0, .int .i64 0, .int .i64 0, .slice none 0 0] : Array Value).size) := Lib.hid (by kernel_rfl)
      obtain ⟨pa, pc, rfl, -⟩ := has1 hII
      have hszq : Hid ((Try.prog.info? 30).map (·.size) = some (#[.int .i64 q.kind, .int .i64 q.session, .string ⟨q.bucket.toArray⟩, .string ⟨q.object.toArray⟩, .string ⟨q.version.toArray⟩, .string ⟨q.pre.toArray⟩, .string ⟨q.delim.toArray⟩, .string ⟨q.body.toArray⟩, .int .i64 q.ck, .int .i64 q.re, .int .i64 q.im, .int .i64 q.id, .int .i64 q.n, .slice pa q.parts.length pc] : Array Value).size) := Lib.hid (by kernel_rfl)
      have hrw : w.heap.size < wr.heap.size := heap_lt hz
      unfold rdV at cE
      by_cases h1 : rdEnd s a e = 0
      · rw [h1] at cE
        by_cases h2 : rightQ q
        · rw [decide_eq_true h2] at cC
          replace cP := Lib.hid (fun w' hu => cP.out w' hu h2.1)
          go_wp2_with fail
          refine (cE.out _).mono ?_
          rintro en w5 ⟨rfl, hu5⟩
          have hb5 := hu5.heap hb fun h => h
          obtain ⟨z0, z1, z2, z3, z4, z5, z6, z7, z8, z9, z10, z11, z12, z13⟩ := cells14 (fun j v e => ((cells_of hb5).1 j).trans e)
          unfold rqV at cC cP hyes
          go_wp2_with fail
          refine (cC.out _ hu5).mono ?_
          rintro en w6 ⟨rfl, hu6⟩
          have hb6 := hu6.heap hb5 fun h => h
          have hu56 := hu5.trans hu6 fun _ _ h => h
          clear z0 z1 z2 z3 z4 z5 z6 z7 z8 z9 z10 z11 z12 z13 hb5 hu5 hu6 cC cE
          obtain ⟨z0, z1, z2, z3, z4, z5, z6, z7, z8, z9, z10, z11, z12, z13⟩ := cells14 (fun j v e => ((cells_of hb6).1 j).trans e)
          go_wp2_with fail
          refine (cP.out _ hu56).mono ?_
          rintro en w7 ⟨rfl, hu7⟩
          have hz7 := hu7.heap (hu56.heap hz fun h => h) fun h => h
          have hb7 := hu7.heap hb6 fun h => h
          have hu67 := hu56.trans hu7 fun _ _ h => h
          clear z0 z1 z2 z3 z4 z5 z6 z7 z8 z9 z10 z11 z12 z13 hb6 hu56 hu7 cP
          by_cases h3 : putQ q = s
          · have hr := hread.out
            rw [if_pos ⟨h1, h2, h3⟩] at hr
            replace hyes := Lib.hid (hyes.out hr)
            clear hno hread hr hb
            rw [h3]
            obtain ⟨z0, z1, z2, z3, z4, z5, z6, z7, z8, z9, z10, z11, z12, z13⟩ := cells14 (fun j v e => ((cells_of hb7).1 j).trans e)
            go_wp2_with ((with_reducible (show wpList _ _ _ (⟨_, Op.store _ _ _, _, _, _, _⟩ :: _) _ _)); refine storeB_list rfl 30 _ _ rfl w.heap.size #[.int .i64 q.kind, .int .i64 q.session, .string ⟨q.bucket.toArray⟩, .string ⟨q.object.toArray⟩, .string ⟨q.version.toArray⟩, .string ⟨q.pre.toArray⟩, .string ⟨q.delim.toArray⟩, .string ⟨q.body.toArray⟩, .int .i64 q.ck, .int .i64 q.re, .int .i64 q.im, .int .i64 q.id, .int .i64 q.n, .slice pa q.parts.length pc] _ _ rfl rfl hz7 rfl hszq.out (by simp [Value.oneCell']) ?_)
            intro w8 hb8 hu8
            have hg := hyes.out w8 ((hII.non hu67).upd hu8 fun k hk h => by have := hnw k hk; omega) ((hu67.mono fun _ _ h => h.elim).trans hu8 fun _ _ h => h)
            clear z0 z1 z2 z3 z4 z5 z6 z7 z8 z9 z10 z11 z12 z13 hz7 hb7 hu8
            go_wp2_with fail
            (try simp only [Exit.inBlock, Exit.then])
            refine bodyPost_ret (results_row_tmp rfl _ _ w.heap.size _ _ _ _ rfl hb8 Try.underlying30 rfl hszq.out) rfl ?_
            exact hg
          · have hr := hread.out
            rw [if_neg (fun h => h3 h.2.2)] at hr
            replace hno := Lib.hid (hno.out hr)
            have hne : ((⟨(putQ q).toArray⟩ : ByteArray) != ⟨s.toArray⟩) = true := str_bne h3
            have hneb : ((⟨(putQ q).toArray⟩ : ByteArray) == ⟨s.toArray⟩) = false := by rw [str_beq, decide_eq_false h3]
            have hnl : (putQ q == s) = false := by simp [h3]
            have hU7 := hU.trans hu67 fun _ _ h => h
            generalize putQ q = pq at *
            clear hyes hread hr hb hb7
            go_wp2_with ((with_reducible (show wpList _ _ _ (⟨_, Op.store _ _ _, _, _, _, _⟩ :: _) _ _)); refine storeB_list rfl 30 _ _ rfl w.heap.size #[.int .i64 0, .int .i64 0, .string ⟨#[]⟩, .string ⟨#[]⟩, .string ⟨#[]⟩, .string ⟨#[]⟩, .string ⟨#[]⟩, .string ⟨#[]⟩, .int .i64 0, .int .i64 0, .int .i64 0, .int .i64 0, .int .i64 0, .slice none 0 0] _ _ rfl rfl hz7 rfl hszz.out (by simp [Value.oneCell']) ?_)
            intro w8 hb8 hu8
            have hg := hno.out w8 (hU7.trans hu8 fun j hj h => by omega)
            clear hz7 hu8 hU7
            go_wp2_with fail
            (try simp only [Exit.inBlock, Exit.then])
            refine bodyPost_ret (results_row_tmp rfl _ _ w.heap.size _ _ _ _ rfl hb8 Try.underlying30 rfl hszz.out) rfl ?_
            exact hg
        · rw [decide_eq_false h2] at cC
          have hr := hread.out
          rw [if_neg (fun h => h2 h.2.1)] at hr
          replace hno := Lib.hid (hno.out hr)
          go_wp2_with fail
          refine (cE.out _).mono ?_
          rintro en w5 ⟨rfl, hu5⟩
          have hb5 := hu5.heap hb fun h => h
          obtain ⟨z0, z1, z2, z3, z4, z5, z6, z7, z8, z9, z10, z11, z12, z13⟩ := cells14 (fun j v e => ((cells_of hb5).1 j).trans e)
          unfold rqV at cC
          go_wp2_with fail
          refine (cC.out _ hu5).mono ?_
          rintro en w6 ⟨rfl, hu6⟩
          have hu56 := hu5.trans hu6 fun _ _ h => h
          have hz6 := hu56.heap hz fun h => h
          have hU6 := hU.trans hu56 fun _ _ h => h
          clear z0 z1 z2 z3 z4 z5 z6 z7 z8 z9 z10 z11 z12 z13 hb5 hu5 hu6 cC cE cP hyes hread hr hb
          go_wp2_with ((with_reducible (show wpList _ _ _ (⟨_, Op.store _ _ _, _, _, _, _⟩ :: _) _ _)); refine storeB_list rfl 30 _ _ rfl w.heap.size #[.int .i64 0, .int .i64 0, .string ⟨#[]⟩, .string ⟨#[]⟩, .string ⟨#[]⟩, .string ⟨#[]⟩, .string ⟨#[]⟩, .string ⟨#[]⟩, .int .i64 0, .int .i64 0, .int .i64 0, .int .i64 0, .int .i64 0, .slice none 0 0] _ _ rfl rfl hz6 rfl hszz.out (by simp [Value.oneCell']) ?_)
          intro w8 hb8 hu8
          have hg := hno.out w8 (hU6.trans hu8 fun j hj h => by omega)
          clear hz6 hu8 hU6
          go_wp2_with fail
          (try simp only [Exit.inBlock, Exit.then])
          refine bodyPost_ret (results_row_tmp rfl _ _ w.heap.size _ _ _ _ rfl hb8 Try.underlying30 rfl hszz.out) rfl ?_
          exact hg
      · have hr := hread.out
        rw [if_neg (fun h => h1 h.1)] at hr
        replace hno := Lib.hid (hno.out hr)
        have hne : (rdEnd s a e != 0) = true := by simp [h1]
        generalize rdEnd s a e = xe at *
        clear hyes hread hr cC cP hb
        go_wp2_with fail
        refine (cE.out _).mono ?_
        rintro en w5 ⟨rfl, hu5⟩
        have hz5 := hu5.heap hz fun h => h
        have hU5 := hU.trans hu5 fun _ _ h => h
        go_wp2_with ((with_reducible (show wpList _ _ _ (⟨_, Op.store _ _ _, _, _, _, _⟩ :: _) _ _)); refine storeB_list rfl 30 _ _ rfl w.heap.size #[.int .i64 0, .int .i64 0, .string ⟨#[]⟩, .string ⟨#[]⟩, .string ⟨#[]⟩, .string ⟨#[]⟩, .string ⟨#[]⟩, .string ⟨#[]⟩, .int .i64 0, .int .i64 0, .int .i64 0, .int .i64 0, .int .i64 0, .slice none 0 0] _ _ rfl rfl hz5 rfl hszz.out (by simp [Value.oneCell']) ?_)
        intro w8 hb8 hu8
        have hg := hno.out w8 (hU5.trans hu8 fun j hj h => by omega)
        clear hz5 hu8 hU5
        go_wp2_with fail
        (try simp only [Exit.inBlock, Exit.then])
        refine bodyPost_ret (results_row_tmp rfl _ _ w.heap.size _ _ _ _ rfl hb8 Try.underlying30 rfl hszz.out) rfl ?_
        exact hg
end Go.Proofs.Ytogekobpjjmnjaa
