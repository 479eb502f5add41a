/- The walk over ambryref02.first. -/
import Derived.Test.YtaflpabpkpfifaaDoorMTM
namespace Go.Proofs.YtaflpabpkpfifaaDoor
open Go.RowKit Go.Amb
set_option linter.unusedVariables false
attribute [local go_sem ↓] Go.wp_at_zero Go.wp_at_succ

/-- What first tells. -/
def firstV (x : Option (Part × Nat)) : Value := match x with
  | none => .tuple #[pV ⟨0, 0, []⟩, .int .i64 0]
  | some (p, k) => .tuple #[pV p, .int .i64 (k : Nat)]

theorem rNum8 (y : List UInt8) (w : World) (h : y.length = 8) : Calls Tryd.prog 55 #[.string ⟨y.toArray⟩, .int .i64 0, .int .i64 8] w (fun e w'' => e = .returned (.int .i64 (wrap64 (numL y))) ∧ w'' = w) :=
  (refNumber y 0 8 w (by omega) (by omega) (by omega)).mono fun e w' h1 => ⟨by rw [h1.1, List.drop_zero, List.take_of_length_le (by omega)], h1.2.symm⟩
set_option maxRecDepth 100000 in
set_option maxHeartbeats 4000000 in
theorem rFirst_num (b : UInt8) (r : List UInt8) (w : World) (hs : (b :: r).length ≤ 128) (hb : b = 3 ∨ b = 4) : Calls Tryd.prog 63 #[.string ⟨(b :: r).toArray⟩] w (Ret (firstV (firstR (b :: r))) w) := by
  have hs' : r.length ≤ 127 := by simpa using hs
  have hlen : (b :: r).length = r.length + 1 := rfl
  have hx : firstR (b :: r) = if r.length < 8 then none else some (⟨(b.toNat : Int) - 1, rdN (if b = 3 then 0 else 255) (r.take 8), []⟩, 9) := by
    rw [firstR_cons]
    rcases hb with rfl | rfl
    · simp
    · simp
  have hn0 : 0 < (b :: r).length := by simp
  have hsz := size_lt hn0
  have b0 : (b :: r)[0] = b := rfl
  by_cases h8 : r.length < 8
  · have hv : firstV (firstR (b :: r)) = .tuple #[pV ⟨0, 0, []⟩, .int .i64 0] := by rw [hx, if_pos h8]; rfl
    rw [hv]
    have h9 : ((b :: r).length : Int) < 9 := by omega
    rcases hb with rfl | rfl
    · have c3 := byte_is hn0 hsz 3 3 rfl true rfl
      generalize (3 : UInt8) :: r = s at *
      go_enter Tryd.func63, Tryd.ntmps63
      go_wp2_with fail
      go_returns
      exact ⟨rfl, (Upd.refl _ _).then_alloc _⟩
    · have c3 := byte_is hn0 hsz 3 3 rfl false rfl
      have c4 := byte_is hn0 hsz 4 4 rfl true rfl
      generalize (4 : UInt8) :: r = s at *
      go_enter Tryd.func63, Tryd.ntmps63
      go_wp2_with fail
      go_returns
      exact ⟨rfl, (Upd.refl _ _).then_alloc _⟩
  · have hv : firstV (firstR (b :: r)) = .tuple #[pV ⟨(b.toNat : Int) - 1, rdN (if b = 3 then 0 else 255) (r.take 8), []⟩, .int .i64 9] := by rw [hx, if_neg h8]; rfl
    rw [hv]
    have h9 : ¬ ((b :: r).length : Int) < 9 := by omega
    have hl8 : (r.take 8).length = 8 := by simp; omega
    have hsub : ∀ w, (Instr.slice 9 (.string ⟨(b :: r).toArray⟩) (some (.int .i64 1)) (some (.int .i64 9)) none).run Tryd.prog w = .ok (.string ⟨(r.take 8).toArray⟩) w := by
      intro w
      have := run_sub (P := Tryd.prog) 9 Tryd.underlying9 (b :: r) 1 9 1 9 rfl rfl (by omega) (by omega) w
      rw [this]
      rfl
    clear hx hv h8
    generalize r.take 8 = bs at *
    rcases hb with rfl | rfl
    · have c3 := byte_is hn0 hsz 3 3 rfl true rfl
      have c4 := byte_is hn0 hsz 4 4 rfl false rfl
      generalize (3 : UInt8) :: r = s at *
      clear hlen
      replace b0 := Lib.hid b0
      have hl9 : bs.length ≤ 1000 := by omega
      replace hl8 := Lib.hid hl8
      go_enter Tryd.func63, Tryd.ntmps63
      go_wp2_with (refine wpList_tobytes rfl _ 9 86 5 rfl Tryd.underlying9 Tryd.underlying86 Tryd.underlying5 bs rfl (by unfold maxLen; omega) ?_)
      intro c w1 hm
      have hcap := hm.cap
      have hmax := hm.max
      unfold maxLen at hmax
      have hu1 : Upd Non w w1 := (Upd.alloc Non w _).trans hm.upd fun _ _ h => h
      have hrow := hm.row
      have hcell := hm.upd.heap (heap_alloc_new w _) (fun h => h)
      have hz := hm.size
      clear hm
      simp only [World.size_alloc] at hrow hz
      have hNw : w.heap.size < w.heap.size + 1 := by omega
      generalize hN : w.heap.size + 1 = N at *
      replace hN := Lib.hid hN
      go_wp2_with fail
      go_loopw [6] (fun i wr => i = .int .i64 0 ∧ RowB wr N bs ∧ Upd Non w wr ∧ wr.heap[w.heap.size]? = some (.cells #[.int .i64 0, .int .i64 0, .string ⟨#[]⟩] 81 (0, 0)) ∧ N < wr.heap.size) (fun i _ => 8 - (intOf i).toNat)
      case atStart => exact ⟨rfl, hrow, hu1, hcell, by omega⟩
      case round =>
        obtain ⟨rfl, hy, hu, hc2, hNr⟩ := hrel
        replace hc2 := Lib.hid hc2
        have hyl := hl8.out
        clear hrow hu1 hcell
        have hnum : numL bs - 9223372036854775808 = rdN 0 bs := by unfold rdN; simp
        have hy0 : 0 < bs.length := by omega
        have hbp : 0 < bs.length := by have h2 := hl8.out; omega
        obtain ⟨e0, f0⟩ := hy 0 hy0
        have hx : bits .xor .u8 (bs[0].toNat : Int) 128 = ((bs[0] ^^^ 128).toNat : Int) := xor_u8 bs[0] 128
        have hrow2 := hy.set hy0 hx
        have et : bs.set 0 (bs[0] ^^^ 128) = topT bs := by unfold topT; rw [List.getElem?_eq_getElem hy0]; rfl
        rw [et] at hrow2
        have hwt := wrap_top bs hyl
        have htl := topT_length bs
        rw [hnum] at hwt
        clear hnum et
        replace hwt := Lib.hid hwt
        replace htl := Lib.hid htl
        replace hyl := Lib.hid hyl
        clear hx
        go_wp2_with fail
        generalize hw2 : wr.setCell _ _ = w2 at *
        have hu2 : Upd Non w w2 := by rw [← hw2]; exact hu.then_setCell (fun h => by have := hN.out; simp only at h; omega) _
        have hc3 : w2.heap[w.heap.size]? = some (.cells #[.int .i64 0, .int .i64 0, .string ⟨#[]⟩] 81 (0, 0)) := by
          rw [← hw2]; exact (Upd.setCell (S := fun b => b = N) wr (a := ⟨N, 0, none⟩) rfl _).heap hc2.out (fun h => by have := hN.out; omega)
        have hz2 : w.heap.size < w2.heap.size := by
          rw [← hw2]; simp; omega
        have hl3 : (topT bs).length = bs.length := by have h1 := htl.out; have h2 := hl8.out; have h3 := hyl.out; omega
        have hB := hrow2.bytes (c := c) (by omega) (by unfold maxLen; omega)
        rw [hl3] at hB
        have hstr := run_str (P := Tryd.prog) _ 86 9 5 Tryd.underlying86 Tryd.underlying5 Tryd.underlying9 _ _ (hB.upd (Upd.drew Non w2) (fun _ _ h => h))
        clear e0 f0 hw2 hrow2 hy
        have hcf := cells_of hc3
        have hq0 := hcf.1
        have hq1 := hcf.2
        have e2 := Lib.hid (show IntKind.i64.wrap (IntKind.i64.wrap ((⟨s.toArray⟩ : ByteArray)[0].toNat : Int) - 1) = 2 by rw [eq_of_beq c3]; rfl)
        replace hcf := Lib.hid hcf
        refine wp_tail 8 (by kernel_rfl) (by kernel_rfl) ?_
        simp only [List.take_succ_cons, List.take_zero, List.drop_succ_cons, List.drop_zero]
        repeat still_step
        still_call (rNum8 (topT bs) _ (by have h1 := htl.out; have h2 := hyl.out; omega))
        repeat still_step
        refine wpStill_nil ?_
        go_wp2_with fail
        clear hq0 hq1
        have h3 := set3 hc3 (.int .i64 2) (.int .i64 (rdN 0 bs)) (.string ⟨#[]⟩)
        have e2w : wrap64 (wrap64 ((⟨s.toArray⟩ : ByteArray)[0].toNat : Int) - 1) = 2 := by
          have a1 : wrap64 (2 + 1) = 2 + 1 := IntWalk.wrap64_in _ ⟨by omega, by omega⟩
          have a2 : wrap64 2 = 2 := IntWalk.wrap64_in _ ⟨by omega, by omega⟩
          rw [eq_of_beq c3]; exact (congrArg (fun z => wrap64 (z - 1)) a1).trans a2
        simp only [e2w, e2.out, hwt.out]
        generalize World.setCell (World.setCell (World.setCell w2 _ _) _ _) _ _ = w3 at *
        have hq := (cells_of h3.1).1
        have hq0 : w3.cell? ⟨w.heap.size, 0, none⟩ = some (.int .i64 2) := hq 0
        have hq1 : w3.cell? ⟨w.heap.size, 1, none⟩ = some (.int .i64 (rdN 0 bs)) := hq 1
        have hq2 : w3.cell? ⟨w.heap.size, 2, none⟩ = some (.string ⟨#[]⟩) := hq 2
        clear hq
        have hu3 : Upd Non w w3 := hu2.trans h3.2 fun j hj h => by subst h; omega
        clear h3
        refine bodyPost_ret (by simp [results, Tryd.results63, go_sem, hq0, hq1, hq2]; try rfl) rfl ?_
        exact ⟨rfl, hu3.then_drew⟩
    · have c3 := byte_is hn0 hsz 3 3 rfl false rfl
      have c4 := byte_is hn0 hsz 4 4 rfl true rfl
      generalize (4 : UInt8) :: r = s at *
      clear hlen
      replace b0 := Lib.hid b0
      have hl9 : bs.length ≤ 1000 := by omega
      replace hl8 := Lib.hid hl8
      go_enter Tryd.func63, Tryd.ntmps63
      go_wp2_with (refine wpList_tobytes rfl _ 9 86 5 rfl Tryd.underlying9 Tryd.underlying86 Tryd.underlying5 bs rfl (by unfold maxLen; omega) ?_)
      intro c w1 hm
      have hcap := hm.cap
      have hmax := hm.max
      unfold maxLen at hmax
      have hu1 : Upd Non w w1 := (Upd.alloc Non w _).trans hm.upd fun _ _ h => h
      have hrow := hm.row
      have hcell := hm.upd.heap (heap_alloc_new w _) (fun h => h)
      have hz := hm.size
      clear hm
      simp only [World.size_alloc] at hrow hz
      have hNw : w.heap.size < w.heap.size + 1 := by omega
      generalize hN : w.heap.size + 1 = N at *
      replace hN := Lib.hid hN
      go_wp2_with fail
      go_loopw [6] (fun i wr => ∃ k : Nat, k ≤ 8 ∧ i = .int .i64 k ∧ RowB wr N (downT bs k) ∧ Upd Non w wr ∧ wr.heap[w.heap.size]? = some (.cells #[.int .i64 0, .int .i64 0, .string ⟨#[]⟩] 81 (0, 0)) ∧ N < wr.heap.size) (fun i _ => 8 - (intOf i).toNat)
      case atStart => exact ⟨0, by omega, rfl, by simpa [downT] using hrow, hu1, hcell, by omega⟩
      case round =>
        obtain ⟨k, hk, rfl, hr, hu, hc2, hNr⟩ := hrel
        replace hc2 := Lib.hid hc2
        by_cases hlt : k < 8
        · have hkl : k < (downT bs k).length := by rw [downT_length, hl8.out]; exact hlt
          have hkt : k < bs.length := by rw [hl8.out]; exact hlt
          obtain ⟨ck, fk⟩ := hr k hkl
          rw [downT_get bs k hkt] at ck
          have hset := hr.set hkl (u8_sub bs[k])
          rw [← downT_succ bs k hkt] at hset
          replace hset := Lib.hid hset
          replace hr := Lib.hid hr
          have hlt' : (k : Int) < 8 := by omega
          go_wp2_with fail
          go_roundw
          case rel =>
            have hset3 := Upd.setCell (S := fun b => b = N) wr (a := ⟨N, k, none⟩) rfl (.int .u8 (IntKind.u8.wrap (255 - (bs[k].toNat : Int))))
            exact ⟨k + 1, by omega, by go_num, hset.out, hu.then_setCell (fun h => by have := hN.out; simp only at h; omega) _, hset3.heap hc2.out (fun h => by have := hN.out; omega), by simpa using hNr⟩
          case measure => simp [intOf]; omega
        · have hk8 : k = 8 := by omega
          have hlt' : ¬ (k : Int) < 8 := by omega
          obtain ⟨y, hy, hyl, hnum⟩ : ∃ y : List UInt8, RowB wr N y ∧ y.length = 8 ∧ numL y - 9223372036854775808 = rdN 255 bs := by
            refine ⟨downT bs 8, hk8 ▸ hr, by rw [downT_length, hl8.out], ?_⟩
            have e := downT_not bs
            rw [hl8.out] at e
            rw [e]
            rfl
          clear hr
          have hy0 : 0 < y.length := by omega
          have hbp : 0 < bs.length := by have h2 := hl8.out; omega
          obtain ⟨e0, f0⟩ := hy 0 hy0
          have hx : bits .xor .u8 (y[0].toNat : Int) 128 = ((y[0] ^^^ 128).toNat : Int) := xor_u8 y[0] 128
          have hrow2 := hy.set hy0 hx
          have et : y.set 0 (y[0] ^^^ 128) = topT y := by unfold topT; rw [List.getElem?_eq_getElem hy0]; rfl
          rw [et] at hrow2
          have hwt := wrap_top y hyl
          have htl := topT_length y
          rw [hnum] at hwt
          clear hnum et
          replace hwt := Lib.hid hwt
          replace htl := Lib.hid htl
          replace hyl := Lib.hid hyl
          clear hx
          go_wp2_with fail
          generalize hw2 : wr.setCell _ _ = w2 at *
          have hu2 : Upd Non w w2 := by rw [← hw2]; exact hu.then_setCell (fun h => by have := hN.out; simp only at h; omega) _
          have hc3 : w2.heap[w.heap.size]? = some (.cells #[.int .i64 0, .int .i64 0, .string ⟨#[]⟩] 81 (0, 0)) := by
            rw [← hw2]; exact (Upd.setCell (S := fun b => b = N) wr (a := ⟨N, 0, none⟩) rfl _).heap hc2.out (fun h => by have := hN.out; omega)
          have hz2 : w.heap.size < w2.heap.size := by
            rw [← hw2]; simp; omega
          have hl3 : (topT y).length = bs.length := by have h1 := htl.out; have h2 := hl8.out; have h3 := hyl.out; omega
          have hB := hrow2.bytes (c := c) (by omega) (by unfold maxLen; omega)
          rw [hl3] at hB
          have hstr := run_str (P := Tryd.prog) _ 86 9 5 Tryd.underlying86 Tryd.underlying5 Tryd.underlying9 _ _ (hB.upd (Upd.drew Non w2) (fun _ _ h => h))
          clear e0 f0 hw2 hrow2 hy
          have hcf := cells_of hc3
          have hq0 := hcf.1
          have hq1 := hcf.2
          have e2 := Lib.hid (show IntKind.i64.wrap (IntKind.i64.wrap ((⟨s.toArray⟩ : ByteArray)[0].toNat : Int) - 1) = 3 by rw [eq_of_beq c4]; rfl)
          replace hcf := Lib.hid hcf
          refine wp_tail 8 (by kernel_rfl) (by kernel_rfl) ?_
          simp only [List.take_succ_cons, List.take_zero, List.drop_succ_cons, List.drop_zero]
          repeat still_step
          still_call (rNum8 (topT y) _ (by have h1 := htl.out; have h2 := hyl.out; omega))
          repeat still_step
          refine wpStill_nil ?_
          go_wp2_with fail
          clear hq0 hq1
          have h3 := set3 hc3 (.int .i64 3) (.int .i64 (rdN 255 bs)) (.string ⟨#[]⟩)
          have e2w : wrap64 (wrap64 ((⟨s.toArray⟩ : ByteArray)[0].toNat : Int) - 1) = 3 := by
            have a1 : wrap64 (3 + 1) = 3 + 1 := IntWalk.wrap64_in _ ⟨by omega, by omega⟩
            have a2 : wrap64 3 = 3 := IntWalk.wrap64_in _ ⟨by omega, by omega⟩
            rw [eq_of_beq c4]; exact (congrArg (fun z => wrap64 (z - 1)) a1).trans a2
          simp only [e2w, e2.out, hwt.out]
          generalize World.setCell (World.setCell (World.setCell w2 _ _) _ _) _ _ = w3 at *
          have hq := (cells_of h3.1).1
          have hq0 : w3.cell? ⟨w.heap.size, 0, none⟩ = some (.int .i64 3) := hq 0
          have hq1 : w3.cell? ⟨w.heap.size, 1, none⟩ = some (.int .i64 (rdN 255 bs)) := hq 1
          have hq2 : w3.cell? ⟨w.heap.size, 2, none⟩ = some (.string ⟨#[]⟩) := hq 2
          clear hq
          have hu3 : Upd Non w w3 := hu2.trans h3.2 fun j hj h => by subst h; omega
          clear h3
          refine bodyPost_ret (by simp [results, Tryd.results63, go_sem, hq0, hq1, hq2]; try rfl) rfl ?_
          exact ⟨rfl, hu3.then_drew⟩
end Go.Proofs.YtaflpabpkpfifaaDoor
