/- A ring in memory; its small calls. -/
import Derived.Test.YtmnoldikimcafaaMBlM
import Derived.Test.YtmnoldikimcafaaMSlH
import Derived.Test.YtmnoldikimcafaaMSlU
import Derived.Test.YtmnoldikimcafaaMSlQ
namespace Go.Amb
open Go.RowKit
/-- What a ring has: its region, where it starts, what comes next, its epoch, its records. -/
structure Rn where
  fr : Nat
  cn : Nat
  st : Int
  nx : Int
  ep : Int
  L : List R3
structure Rn.Ok (r : Rn) : Prop where
  fr : r.fr ≤ 16384
  c2 : 2 ≤ r.cn
  cn : r.cn ≤ 16384
  s0 : 0 ≤ r.st
  s1 : r.st ≤ r.nx
  s2 : r.nx ≤ 1152921504607000000
  e0 : 0 ≤ r.ep
  e1 : r.ep ≤ 2147483647
  l : r.L.length ≤ 100000
def Rn.place (r : Rn) (q : Int) : Int := r.fr + q % r.cn
end Go.Amb
namespace Go.Proofs.Ytmnoldikimcafaa
open Go.RowKit Go.Amb Go.Shelf
set_option linter.unusedVariables false
set_option linter.unusedSimpArgs false
set_option maxRecDepth 100000
abbrev rgC (D : Nat) (r : Rn) (vr : Value) : Array Value := #[.pointer (some ⟨D, 0, none⟩), .int .i64 (r.fr : Int), .int .i64 (r.cn : Int), .int .i64 r.st, .int .i64 r.nx, .int .i64 r.ep, vr]
/-- A ring at block R, on the disk at D; G: the blocks that it has. -/
structure RingAt (w : World) (R D : Nat) (G : Nat → Prop) (r : Rn) : Prop where
  ok : r.Ok
  ex : ∃ vr, w.heap[R]? = some (.cells (rgC D r vr) 43 (0, 0)) ∧ w.ownsRow 0 65 3 vr r.L.length (jc r.L) ∧ ¬ At vr R ∧ ∀ k, G k ↔ k = R ∨ At vr k
theorem RingAt.upd {S : Nat → Prop} {w w' : World} {R D : Nat} {G : Nat → Prop} {r : Rn} (h : RingAt w R D G r) (hu : Upd S w w') (hS : ∀ k, G k → ¬ S k) : RingAt w' R D G r := by
  obtain ⟨vr, hX, hL, h1, hG⟩ := h.ex
  exact ⟨h.ok, vr, hu.heap hX (hS _ ((hG _).2 (.inl rfl))), hu.owns hL (fun k hk => hS k ((hG k).2 (.inr hk))), h1, hG⟩
theorem RingAt.non {w w' : World} {R D : Nat} {G : Nat → Prop} {r : Rn} (h : RingAt w R D G r) (hu : Upd Non w w') : RingAt w' R D G r := h.upd hu fun _ _ h => h
theorem RingAt.lt {w : World} {R D : Nat} {G : Nat → Prop} {r : Rn} (h : RingAt w R D G r) : ∀ k, G k → k < w.heap.size := by
  obtain ⟨vr, hX, hL, h1, hG⟩ := h.ex
  intro k hk
  rcases (hG k).1 hk with rfl | hk
  · exact heap_lt hX
  · exact own_lt hL hk
theorem RingAt.gR {w : World} {R D : Nat} {G : Nat → Prop} {r : Rn} (h : RingAt w R D G r) : G R := by
  obtain ⟨vr, hX, hL, h1, hG⟩ := h.ex
  exact (hG R).2 (.inl rfl)
theorem RingAt.cell {w : World} {R D : Nat} {G : Nat → Prop} {r : Rn} (h : RingAt w R D G r) : ∃ a c, w.cell? ⟨R, 0, none⟩ = some (.pointer (some ⟨D, 0, none⟩)) ∧ w.cell? ⟨R, 1, none⟩ = some (.int .i64 (r.fr : Int)) ∧ w.cell? ⟨R, 2, none⟩ = some (.int .i64 (r.cn : Int)) ∧
    w.cell? ⟨R, 3, none⟩ = some (.int .i64 r.st) ∧ w.cell? ⟨R, 4, none⟩ = some (.int .i64 r.nx) ∧ w.cell? ⟨R, 5, none⟩ = some (.int .i64 r.ep) ∧ w.cell? ⟨R, 6, none⟩ = some (.slice a r.L.length c) := by
  obtain ⟨vr, hX, hL, h1, hG⟩ := h.ex
  obtain ⟨_, a, c, rfl, -⟩ := has_of_owns hL
  obtain ⟨hx, -⟩ := cells_of hX
  exact ⟨a, c, hx 0, hx 1, hx 2, hx 3, hx 4, hx 5, hx 6⟩
theorem lRead (b : List UInt8) (v : Value) (w : World) (hB : Bytes w v b) : Calls Try.prog 57 #[v] w (Ret (.tuple #[(readS b).1.v, .int .i64 (readS b).2]) w) := by
  by_cases hl : b.length = 128
  · by_cases h0 : pf b 0 1 = [83]
    · exact lRead_rest b v w hB hl h0
    · exact lRead_head b v w hB hl h0
  · exact lRead_len b v w hB hl
/-- What a ring reads at a sector. -/
def atS (d : Dk) (i : Int) : S5 × Bool := if d.within i = 0 then ((readS (d.has i.toNat)).1, decide ((readS (d.has i.toNat)).2 = 0)) else (slot0, false)
section
variable {w : World} {R D : Nat} {F G : Nat → Prop} {d : Dk} {r : Rn}
theorem tmod_pos {q : Int} (h : 0 ≤ q) (n : Nat) : q.tmod n = q % n := Int.tmod_eq_emod_of_nonneg h
theorem lPlace (h : RingAt w R D G r) (q : Int) (hq : 0 ≤ q) : Calls Try.prog 29 #[.pointer (some ⟨R, 0, none⟩), .int .i64 q] w (Told (.int .i64 (r.place q)) w) := by
  obtain ⟨a, c, x0, x1, x2, x3, x4, x5, x6⟩ := h.cell
  have ok := h.ok
  obtain ⟨fr, cn, st, nx, ep, L⟩ := r
  obtain ⟨h1, h2, h3, -⟩ := ok
  unfold Rn.place
  simp only at *
  have hm := tmod_pos hq cn
  have hz : ((cn : Int) == 0) = false := by simp; omega
  have hz0 : ¬ (cn : Int) = 0 := by omega
  have hb1 := Int.emod_nonneg q hz0
  have hb2 := Int.emod_lt_of_pos q (show (0 : Int) < cn by omega)
  have hw : IntKind.i64.wrap ((fr : Int) + q % (cn : Int)) = (fr : Int) + q % (cn : Int) := IntWalk.i64_in _ ⟨by omega, by omega⟩
  clear h hb1 hb2
  go_enter Try.func29, Try.ntmps29
  go_wp2_with fail
  go_quiet (fail)
  go_wp2_with fail
  go_ret
  exact ⟨rfl, _, rfl⟩
theorem lOpened (h : RingAt w R D G r) : Calls Try.prog 25 #[.pointer (some ⟨R, 0, none⟩)] w (Ret (.bool true) w) := by
  obtain ⟨a, c, x0, x1, x2, x3, x4, x5, x6⟩ := h.cell
  clear h
  go_enter Try.func25, Try.ntmps25
  go_wp2_with fail
  go_ret
  exact ⟨rfl, Upd.refl _ _⟩
theorem lStart (h : RingAt w R D G r) : Calls Try.prog 18 #[.pointer (some ⟨R, 0, none⟩)] w (Ret (.int .i64 r.st) w) := by
  have hO := Lib.hid (lOpened h)
  obtain ⟨a, c, x0, x1, x2, x3, x4, x5, x6⟩ := h.cell
  clear h
  go_enter Try.func18, Try.ntmps18
  go_wp2_with fail
  refine hO.out.mono ?_
  rintro en w1 ⟨rfl, hu⟩
  have x3 := hu.cell x3 fun h => h
  have x4 := hu.cell x4 fun h => h
  have x5 := hu.cell x5 fun h => h
  go_wp2_with fail
  go_ret
  exact ⟨rfl, hu⟩
theorem lNext (h : RingAt w R D G r) : Calls Try.prog 15 #[.pointer (some ⟨R, 0, none⟩)] w (Ret (.int .i64 r.nx) w) := by
  have hO := Lib.hid (lOpened h)
  obtain ⟨a, c, x0, x1, x2, x3, x4, x5, x6⟩ := h.cell
  clear h
  go_enter Try.func15, Try.ntmps15
  go_wp2_with fail
  refine hO.out.mono ?_
  rintro en w1 ⟨rfl, hu⟩
  have x3 := hu.cell x3 fun h => h
  have x4 := hu.cell x4 fun h => h
  have x5 := hu.cell x5 fun h => h
  go_wp2_with fail
  go_ret
  exact ⟨rfl, hu⟩
theorem lEpoch (h : RingAt w R D G r) : Calls Try.prog 14 #[.pointer (some ⟨R, 0, none⟩)] w (Ret (.int .i64 r.ep) w) := by
  have hO := Lib.hid (lOpened h)
  obtain ⟨a, c, x0, x1, x2, x3, x4, x5, x6⟩ := h.cell
  clear h
  go_enter Try.func14, Try.ntmps14
  go_wp2_with fail
  refine hO.out.mono ?_
  rintro en w1 ⟨rfl, hu⟩
  have x3 := hu.cell x3 fun h => h
  have x4 := hu.cell x4 fun h => h
  have x5 := hu.cell x5 fun h => h
  go_wp2_with fail
  go_ret
  exact ⟨rfl, hu⟩
end
end Go.Proofs.Ytmnoldikimcafaa

namespace Go.Proofs.Ytmnoldikimcafaa
open Go.RowKit Go.Amb Go.Shelf
set_option linter.unusedVariables false
set_option linter.unusedSimpArgs false
set_option maxRecDepth 100000
/-- The greatest epoch of e and of the right slots in k sectors. -/
def youngS (d : Dk) (fr : Nat) (e : Int) : Nat → Int
  | 0 => e
  | k + 1 => if (atS d ((fr : Int) + k)).2 = true then max (youngS d fr e k) (atS d ((fr : Int) + k)).1.e else youngS d fr e k
section
variable {w : World} {R D : Nat} {F G : Nat → Prop} {d : Dk} {r : Rn}
theorem lRoom (h : RingAt w R D G r) : Calls Try.prog 16 #[.pointer (some ⟨R, 0, none⟩)] w (Ret (.int .i64 ((r.cn : Int) - (r.nx - r.st))) w) := by
  have hO := Lib.hid (lOpened h)
  obtain ⟨a, c, x0, x1, x2, x3, x4, x5, x6⟩ := h.cell
  have ok := h.ok
  obtain ⟨fr, cn, st, nx, ep, L⟩ := r
  obtain ⟨h1, h2, h3, h4, h5, h6, -⟩ := ok
  simp only at *
  have hw1 : IntKind.i64.wrap (nx - st) = nx - st := IntWalk.i64_in _ ⟨by omega, by omega⟩
  have hw2 : IntKind.i64.wrap ((cn : Int) - (nx - st)) = (cn : Int) - (nx - st) := IntWalk.i64_in _ ⟨by omega, by omega⟩
  clear h h1 h2 h3 h4 h5 h6
  go_enter Try.func16, Try.ntmps16
  go_wp2_with fail
  refine hO.out.mono ?_
  rintro en w1 ⟨rfl, hu⟩
  have x2 := hu.cell x2 fun h => h
  have x3 := hu.cell x3 fun h => h
  have x4 := hu.cell x4 fun h => h
  have hu' := Lib.hid (fun n => hu.then_drewN n)
  go_wp2_with fail
  go_quiet (fail)
  go_wp2_with fail
  go_ret
  first | exact ⟨rfl, hu⟩ | exact ⟨rfl, hu.then_drew⟩ | exact ⟨rfl, hu.then_drewN _⟩
theorem lAt (h : RingAt w R D G r) (hd : DiskAt w D F d) (hn : d.P.length ≤ 1000000) (i : Int) : Calls Try.prog 40 #[.pointer (some ⟨R, 0, none⟩), .int .i64 i] w (Ret (.tuple #[(atS d i).1.v, .bool (atS d i).2]) w) := by
  obtain ⟨a, c, x0, -⟩ := h.cell
  have hR := Lib.hid (fun w' (hu : Upd Non w w') => lReadAll (hd.non hu) hn i)
  have hS := Lib.hid (fun b v w hB => lRead b v w hB)
  have hu0 := Upd.alloc Non w (.cells #[.int .i64 0, .int .i64 0, .bool false, .bool false, .string ⟨#[]⟩] 56)
  have hX := heap_alloc_new w (.cells #[.int .i64 0, .int .i64 0, .bool false, .bool false, .string ⟨#[]⟩] 56)
  have x0' := hu0.cell x0 fun h => h
  clear h hd
  by_cases hw : d.within i = 0
  · have hr : d.reads i = d.has i.toNat := by unfold Dk.reads; rw [if_pos hw]
    unfold atS
    rw [if_pos hw]
    rw [hr, hw] at hR
    generalize d.has i.toNat = b at *
    replace hS := Lib.hid (hS.out b)
    generalize readS b = p at *
    obtain ⟨⟨e, q, f, l, s⟩, c⟩ := p
    simp only at hS ⊢
    clear hw hr
    go_enter Try.func40, Try.ntmps40
    go_wp2_with fail
    refine (hR.out _ hu0).mono ?_
    rintro en w1 ⟨v, rfl, hB, hu1, hv⟩
    have hU1 := hu0.trans hu1 fun _ _ h => h
    have hX1 := hu1.heap hX fun h => h
    have hlt := heap_lt hX1
    have hS1 := Lib.hid (hS.out _ w1 hB)
    clear hB hR hS hu0 hX x0' hu1 hv
    go_wp2_with fail
    refine hS1.out.mono ?_
    rintro en w2 ⟨rfl, hu2⟩
    clear hS1
    have hX2 := hu2.heap hX1 fun h => h
    have hU2 := hU1.trans hu2 fun _ _ h => h
    clear hU1 hu2 hX1
    have hua := Upd.alloc Non w2 (.cells #[.int .i64 e, .int .i64 q, .bool f, .bool l, .string ⟨s.toArray⟩] 56)
    have hX3 := hua.heap hX2 fun h => h
    obtain ⟨hr, hUe⟩ := set5 hX3 (hU2.trans hua fun _ _ h => h) (Nat.le_refl _) (.int .i64 e) (.int .i64 q) (.bool f) (.bool l) (.string ⟨s.toArray⟩)
    obtain ⟨y, z⟩ := cells_of hX3
    have y0 := y 0
    have y1 := y 1
    have y2 := y 2
    have y3 := y 3
    have y4 := y 4
    have z0 := z 0
    have z1 := z 1
    have z2 := z 2
    have z3 := z 3
    have z4 := z 4
    clear hua hX2 hX3 hU2 y z
    go_wp2_with fail
    refine bodyPost_ret (v := .tuple #[S5.v ⟨e, q, f, l, s⟩, .bool (decide (c = 0))]) (by simp [results, Try.results40, go_sem, hr 0, hr 1, hr 2, hr 3, hr 4]; try rfl) rfl ⟨rfl, hUe⟩
  · unfold atS
    rw [if_neg hw]
    have hw' : (d.within i != 0) = true := by simp [hw]
    generalize d.within i = c at *
    go_enter Try.func40, Try.ntmps40
    go_wp2_with fail
    refine (hR.out _ hu0).mono ?_
    rintro en w1 ⟨v, rfl, hB, hu1, hv⟩
    have hU1 := hu0.trans hu1 fun _ _ h => h
    have hX1 := hu1.heap hX fun h => h
    have hlt := heap_lt hX1
    clear hB hR hS hu0 hX x0' hu1 hv
    obtain ⟨y, z⟩ := cells_of hX1
    have y0 := y 0
    have y1 := y 1
    have y2 := y 2
    have y3 := y 3
    have y4 := y 4
    have z0 := z 0
    have z1 := z 1
    have z2 := z 2
    have z3 := z 3
    have z4 := z 4
    obtain ⟨hr, hUe⟩ := set5 hX1 hU1 (Nat.le_refl _) (.int .i64 0) (.int .i64 0) (.bool false) (.bool false) (.string ⟨#[]⟩)
    clear hX1 hU1 y z
    go_wp2_with fail
    refine bodyPost_ret (v := .tuple #[slot0.v, .bool false]) (by simp [results, Try.results40, go_sem, hr 0, hr 1, hr 2, hr 3, hr 4, slot0]; try rfl) rfl ⟨rfl, hUe⟩
set_option maxHeartbeats 1000000 in
theorem lYoungest (h : RingAt w R D G r) (hd : DiskAt w D F d) (hn : d.P.length ≤ 1000000) (e : Int) : Calls Try.prog 22 #[.pointer (some ⟨R, 0, none⟩), .int .i64 e] w (Ret (.int .i64 (youngS d r.fr e r.cn)) w) := by
  have hA := Lib.hid (fun w' (hu : Upd Non w w') i => lAt (h.non hu) (hd.non hu) hn i)
  obtain ⟨a, c, x0, x1, x2, -⟩ := h.cell
  have ok := h.ok
  obtain ⟨fr, cn, st, nx, ep, L⟩ := r
  obtain ⟨h1, h2, h3, -⟩ := ok
  simp only at *
  clear h hd
  obtain ⟨Y, hY⟩ : ∃ Y, youngS d fr e = Y := ⟨_, rfl⟩
  rw [hY]
  have hY0 : Y 0 = e := by rw [← hY]; rfl
  have hYs : Hid (∀ k : Nat, Y (k + 1) = if (atS d ((fr : Int) + k)).2 = true then max (Y k) (atS d ((fr : Int) + k)).1.e else Y k) := Lib.hid (fun k => by rw [← hY]; rfl)
  clear hY
  go_enter Try.func22, Try.ntmps22
  go_wp2_with fail
  go_loopw [1, 12] (fun ev iv wr => ∃ k : Nat, iv = .int .i64 (k : Int) ∧ k ≤ cn ∧ ev = .int .i64 (Y k) ∧ Upd Non w wr) (fun _ iv _ => cn - (intOf iv).toNat)
  case atStart => exact ⟨0, rfl, Nat.zero_le _, by rw [hY0], Upd.refl _ _⟩
  case round =>
    obtain ⟨k, rfl, hk, rfl, hU⟩ := hrel
    by_cases hlt : k < cn
    · have hltI : (k : Int) < (cn : Int) := by omega
      have hs := hYs.out k
      have hA1 := Lib.hid (hA.out wr hU ((fr : Int) + k))
      have hw : IntKind.i64.wrap ((fr : Int) + k) = (fr : Int) + k := IntWalk.i64_in _ ⟨by omega, by omega⟩
      have x1 := hU.cell x1 fun h => h
      generalize atS d ((fr : Int) + k) = p at *
      obtain ⟨⟨pe, pq, pf, pl, pd⟩, b⟩ := p
      simp only at hA1 hs
      generalize Y k = yk at *
      go_wp2_with fail
      refine hA1.out.mono ?_
      rintro en w2 ⟨rfl, hu2⟩
      have hU2 := (hU.trans hu2 fun _ _ h => h).trans (Upd.alloc Non w2 (.cells #[.int .i64 pe, .int .i64 pq, .bool pf, .bool pl, .string ⟨pd.toArray⟩] 56)) fun _ _ h => h
      clear hA1 hw hu2
      cases b with
      | true =>
        rw [if_pos rfl] at hs
        replace hs := Lib.hid hs
        go_wp2_with fail
        go_roundw
        case rel => exact ⟨k + 1, by go_num, by omega, by rw [hs.out]; try (congr 1; split <;> omega), hU2⟩
        case measure => simp [intOf]; omega
      | false =>
        rw [if_neg (by simp)] at hs
        replace hs := Lib.hid hs
        go_wp2_with fail
        go_roundw
        case rel => exact ⟨k + 1, by go_num, by omega, by rw [hs.out]; try (congr 1; split <;> omega), hU2⟩
        case measure => simp [intOf]; omega
    · obtain rfl : k = cn := by omega
      have hltI : ¬ (k : Int) < (k : Int) := by omega
      go_wp2_with fail
      go_ret
      exact ⟨rfl, hU⟩
end
end Go.Proofs.Ytmnoldikimcafaa
