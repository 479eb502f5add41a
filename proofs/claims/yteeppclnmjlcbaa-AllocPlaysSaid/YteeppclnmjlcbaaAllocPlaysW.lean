/- The walk over AllocPlays. -/
import Derived.Test.YteeppclnmjlcbaaAllocStep
namespace Go.Proofs.Yteeppclnmjlcbaa
open Go.RowKit Go.Amb
set_option linter.unusedVariables false

/-- How both stand at a round's head. -/
structure Play (w0 w : World) (r g n B M : Nat) (v : Value) : Prop where
  ours : Ours w0 w r g n B
  pages : Pages w v B n
  apart : ∀ q, At v q → q ≠ g ∧ q ≠ M
  cell : w.cell? ⟨M, 0, none⟩ = some v
  free : w.frozen? ⟨M, 0, none⟩ = false
  ne : M ≠ r ∧ M ≠ g
  own : w0.heap.size ≤ M
/-- How both stand in a round, behind the step: what is new lies in m. -/
structure Both (w0 w : World) (r g n B M m : Nat) (v : Value) : Prop where
  play : Play w0 w r g n B m v
  free : w.frozen? ⟨M, 0, none⟩ = false
  cell : ∃ u, w.cell? ⟨M, 0, none⟩ = some u
  ne : M ≠ r ∧ M ≠ g ∧ M ≠ m
  apart : ∀ q, At v q → q ≠ M
  own : w0.heap.size ≤ M
theorem live_of {w : World} {v : Value} {B n : Nat} (hn : 1 ≤ n) (h : Pages w v B n) : ∀ q, At v q → q < w.heap.size := by
  intro q hq
  obtain ⟨a, c, rfl, _, _, hc⟩ := pages_at h
  obtain ⟨g', off, rfl, hc0⟩ := hc 0 (by omega)
  have := World.block_lt_of_cell? w _ hc0
  simp [At, Value.ownBlock] at hq
  subst hq
  exact this
theorem Both.ofStore {w0 wr w3 : World} {r g r' g' n B B' M : Nat} {v v' u u0 : Value} {wx : World} (hO : Ours w0 wr r g n B) (hn : 1 ≤ n) (hPg : Pages wr v B n) (hap : ∀ q, At v q → q ≠ g ∧ q ≠ M) (y9f : wr.frozen? ⟨M, 0, none⟩ = false) (hM9 : M < wr.heap.size) (ne : M ≠ r ∧ M ≠ g) (hMo : w0.heap.size ≤ M)
    (hO3 : Ours w0 w3 r' g' n B') (hP3 : Pages w3 v' B' n) (hv3 : ∀ q, At v' q → q ≠ g') (hu3 : Upd (fun j => j = g) wx w3) (hx : Upd Non wr wx) (hs : wx.heap.size = wr.heap.size + 1) (hfr3 : ∀ q, At v' q → At v q ∨ wx.heap.size ≤ q) (hwh : (r' = r ∧ g' = g) ∨ (wx.heap.size ≤ r' ∧ wx.heap.size ≤ g'))
    (q9 : w3.cell? ⟨M, 0, none⟩ = some u) (qa : w3.cell? ⟨wr.heap.size, 0, none⟩ = some u0) (qf : w3.frozen? ⟨wr.heap.size, 0, none⟩ = false) : Both w0 (w3.setCell ⟨wr.heap.size, 0, none⟩ v') r' g' n B' M wr.heap.size v' := by
  have hl := hO.at_.live
  have hlv := live_of hn hPg
  have h00 := hO.upd.size
  have hUs : Upd (fun k => k = wr.heap.size) w3 (w3.setCell ⟨wr.heap.size, 0, none⟩ v') := Upd.setCell (S := fun k => k = wr.heap.size) w3 (a := ⟨wr.heap.size, 0, none⟩) rfl v'
  have hap3 : ∀ q, At v' q → q ≠ wr.heap.size ∧ q ≠ M := fun q hq => by
    rcases hfr3 q hq with h | h
    · have h1 := hap q h; have h2 := hlv q h; exact ⟨by omega, h1.2⟩
    · exact ⟨by omega, by omega⟩
  have hfM : w3.frozen? ⟨M, 0, none⟩ = false := (World.frozen?_of_block (a := ⟨M, 0, none⟩) ((hx.non.trans hu3 fun _ _ h => h : Upd (fun j => j = g) wr w3).block M hM9 (by omega))).trans y9f
  refine ⟨⟨hO3.store (by omega) (by omega) (by omega) _, hP3.upd hUs fun q hq => (hap3 q hq).1, fun q hq => ⟨hv3 q hq, (hap3 q hq).1⟩, ?_, ?_, by omega, by omega⟩, ?_, ⟨u, hUs.cell q9 (by dsimp only; omega)⟩, by omega, fun q hq => (hap3 q hq).2, hMo⟩
  · exact World.cell?_setCell_same w3 _ _ qa
  · exact (World.frozen?_setCell w3 _ _ _).trans qf
  · exact (World.frozen?_setCell w3 _ _ _).trans hfM
theorem Both.ofAlloc {w0 wr w3 : World} {r g r' g' n B B' M : Nat} {v v' u : Value} {wx : World} {T : TypeId} (hO : Ours w0 wr r g n B) (hn : 1 ≤ n) (hPg : Pages wr v B n) (hap : ∀ q, At v q → q ≠ g ∧ q ≠ M) (y9f : wr.frozen? ⟨M, 0, none⟩ = false) (hM9 : M < wr.heap.size) (ne : M ≠ r ∧ M ≠ g) (hMo : w0.heap.size ≤ M)
    (hO3 : Ours w0 w3 r' g' n B') (hP3 : Pages w3 v' B' n) (hv3 : ∀ q, At v' q → q ≠ g') (hu3 : Upd (fun j => j = g) wx w3) (hx : Upd Non wr wx) (hfr3 : ∀ q, At v' q → At v q ∨ wx.heap.size ≤ q) (hwh : (r' = r ∧ g' = g) ∨ (wx.heap.size ≤ r' ∧ wx.heap.size ≤ g'))
    (q9 : w3.cell? ⟨M, 0, none⟩ = some u) : Both w0 (w3.alloc (.cells #[v'] T)) r' g' n B' M w3.heap.size v' := by
  have hl := hO.at_.live
  have hl3 := hO3.at_.live
  have hlv := live_of hn hPg
  have hlv3 := live_of hn hP3
  have h00 := hO.upd.size
  have hx0 := hx.size
  have h30 := hu3.size
  have hUs := Upd.alloc Non w3 (.cells #[v'] T)
  have hap3 : ∀ q, At v' q → q ≠ w3.heap.size ∧ q ≠ M := fun q hq => by
    have h3 := hlv3 q hq
    rcases hfr3 q hq with h | h
    · have h1 := hap q h; have h2 := hlv q h; exact ⟨by omega, h1.2⟩
    · exact ⟨by omega, by omega⟩
  have hfM : (w3.alloc (.cells #[v'] T)).frozen? ⟨M, 0, none⟩ = false := (World.frozen?_of_block (a := ⟨M, 0, none⟩) ((((hx.non.trans hu3 fun _ _ h => h : Upd (fun j => j = g) wr w3)).then_alloc _).block M hM9 (by omega))).trans y9f
  have hc := cells_of (heap_alloc_new w3 (.cells #[v'] T))
  exact ⟨⟨hO3.non hUs, hP3.non hUs, fun q hq => ⟨hv3 q hq, (hap3 q hq).1⟩, hc.1 0, hc.2 0, by omega, by omega⟩, hfM, ⟨u, hUs.cell q9 fun h => h⟩, by omega, fun q hq => (hap3 q hq).2, hMo⟩
theorem Both.round {w0 w w1 : World} {r g n B M m : Nat} {v u : Value} (h : Both w0 w r g n B M m v) (hu : Upd Non w w1) (hc : w1.cell? ⟨M, 0, none⟩ = some u) (hf : w1.frozen? ⟨M, 0, none⟩ = false) : Play w0 (w1.setCell ⟨M, 0, none⟩ v).drew r g n B M v := by
  have hne := h.ne
  have hUs : Upd (fun k => k = M) w1 (w1.setCell ⟨M, 0, none⟩ v) := Upd.setCell (S := fun k => k = M) w1 (a := ⟨M, 0, none⟩) rfl v
  exact ⟨(((h.play.ours.non hu).store h.own (by omega) (by omega) v).non (Upd.drew _ _)), ((h.play.pages.non hu).upd hUs fun q hq => h.apart q hq).non (Upd.drew _ _), fun q hq => ⟨(h.play.apart q hq).1, h.apart q hq⟩, World.cell?_setCell_same w1 _ _ hc, (World.frozen?_setCell w1 _ _ _).trans hf, ⟨hne.1, hne.2.1⟩, h.own⟩
set_option maxHeartbeats 8000000 in
theorem lAllocPlays (n : Int) (v : Value) (l : List Act3) (i : Int) (w : World) (hP : Acts w v l) (hok : ∀ x ∈ l, okAct x) (hl : l.length < 9223372036854775808) : Calls Try.prog 5 #[.int .i64 n, v, .int .i64 i] w (Ret (.bool true) w) := by
  obtain ⟨a, c, rfl, hat⟩ := acts_at hP
  replace hat := Lib.hid hat
  replace hok := Lib.hid hok
  clear hP
  by_cases hn : n < 1 ∨ 16384 < n
  · have hnew := Lib.hid (aNew_bad n w hn)
    have href := Lib.hid (fun w => refNew_bad n w hn)
    clear hn
    go_enter Try.func5, Try.ntmps5
    go_wp2_with fail
    refine hnew.out.mono ?_
    rintro e w1 ⟨rfl, hu1⟩
    go_wp2_with fail
    refine (href.out _).mono ?_
    rintro e w2 ⟨rfl, hu2⟩
    have hU2 := hu1.trans hu2 fun _ _ h => h
    clear hu1 hu2
    by_cases h300 : 300 < l.length
    · have h300' : (300 : Int) < (l.length : Int) := by omega
      go_wp2_with fail
      refine (lives07 _).mono ?_
      rintro e w3 ⟨rfl, u3⟩
      have t := (hU2.then_alloc (.cells #[.slice none 0 0] 44)).trans u3 fun _ _ h => h
      go_wp2_with fail
      go_ret
      exact ⟨rfl, t⟩
    · have h300' : ¬ (300 : Int) < (l.length : Int) := by omega
      go_wp2_with fail
      go_loopw [7, 11] (fun av kv wr => av = .pointer none ∧ kv = .int .i64 0 ∧ Upd Non w wr) (fun _ _ _ => 0)
      case atStart => exact ⟨rfl, rfl, hU2.then_alloc _⟩
      case round =>
        obtain ⟨rfl, rfl, hur⟩ := hrel
        by_cases hl0 : 0 < l.length
        · have hl0' : (0 : Int) < (l.length : Int) := by omega
          go_wp2_with fail
          refine (lives07 _).mono ?_
          rintro e w3 ⟨rfl, u3⟩
          have t := hur.trans u3 fun _ _ h => h
          go_wp2_with fail
          go_ret
          exact ⟨rfl, t⟩
        · have hl0' : ¬ (0 : Int) < (l.length : Int) := by omega
          go_wp2_with fail
          refine (lives07 _).mono ?_
          rintro e w3 ⟨rfl, u3⟩
          have t := hur.trans u3 fun _ _ h => h
          go_wp2_with fail
          go_ret
          exact ⟨rfl, t⟩
  · obtain ⟨N, rfl⟩ := Int.eq_ofNat_of_zero_le (show 0 ≤ n by omega)
    have hN : 1 ≤ N ∧ N ≤ 16384 := by omega
    clear hn
    go_enter Try.func5, Try.ntmps5
    go_wp2_with fail
    refine (aNew N w hN).mono ?_
    rintro e w1 ⟨r, g, rfl, hA, hu, hr, hg⟩
    have hO : Ours w w1 r g N 0 := ⟨hA, hu, hg, hr⟩
    go_wp2_with fail
    refine (refNew N _ hN).mono ?_
    rintro e w2 ⟨v0, rfl, hP2, hu2, hf2⟩
    obtain ⟨a0, c0, hv0, -⟩ := pages_at hP2
    subst hv0
    have hX := Upd.alloc Non w2 (.cells #[.slice a0 N c0] 44)
    have hNw := cells_of (heap_alloc_new w2 (.cells #[.slice a0 N c0] 44))
    have hplay : Play w (w2.alloc (.cells #[.slice a0 N c0] 44)) r g N 0 w2.heap.size (.slice a0 N c0) := by
      have h1 := hA.live
      have h2 := hu2.size
      have h3 := hu.size
      refine ⟨(hO.non hu2).non hX, hP2.non hX, fun q hq => ?_, hNw.1 0, hNw.2 0, by omega, by omega⟩
      have h4 := hf2 q hq
      obtain ⟨_, _, hv, _, _, hc⟩ := pages_at hP2
      obtain ⟨g', off, rfl, hc0⟩ := hc 0 (by omega)
      have h5 := World.block_lt_of_cell? _ _ hc0
      injection hv with hv
      subst hv
      simp [At, Value.ownBlock] at hq
      subst hq
      exact ⟨by omega, by have : g' < w2.heap.size := h5; omega⟩
    replace hplay := Lib.hid hplay
    have hMs : Hid (w.heap.size ≤ w2.heap.size) := by have h2 := hu2.size; have h3 := hu.size; show _ ≤ _; omega
    have hU2 : Hid (Upd Non w w2) := hu.trans hu2 fun _ _ h => h
    clear hA hu hr hg hO hP2 hu2 hf2 hX hNw
    by_cases h300 : 300 < l.length
    · have h300' : (300 : Int) < (l.length : Int) := by omega
      go_wp2_with fail
      refine (lives07 _).mono ?_
      rintro e w3 ⟨rfl, u3⟩
      have t := (hU2.out.then_alloc (.cells #[.slice a0 N c0] 44)).trans u3 fun _ _ h => h
      go_wp2_with fail
      go_ret
      exact ⟨rfl, t⟩
    · have h300' : ¬ (300 : Int) < (l.length : Int) := by omega
      go_wp2_with fail
      generalize w2.heap.size = M at *
      go_loopw [7, 11] (fun av kv wr => ∃ (k r g B : Nat) (v : Value), av = .pointer (some ⟨r, 0, none⟩) ∧ kv = .int .i64 (k : Int) ∧ k ≤ l.length ∧ Play w wr r g N B M v) (fun _ kv _ => l.length - (intOf kv).toNat)
      case atStart => exact ⟨0, r, g, 0, _, rfl, rfl, by omega, hplay.out⟩
      case round =>
        clear hplay hU2
        obtain ⟨k, r, g, B, v, rfl, rfl, hk, hpl⟩ := hrel
        obtain ⟨hO, hPg, hap, y9, y9f, ⟨ne1, ne2⟩, hMo⟩ := hpl
        obtain ⟨av, cv, rfl, -⟩ := pages_at hPg
        by_cases hkl : k < l.length
        · have hkl' : (k : Int) < (l.length : Int) := by omega
          have hk0 : (0 : Int) ≤ (k : Int) := by omega
          obtain ⟨gl, off, x, rfl, hx, x0, x1, x2, hgl⟩ := hat.out k hkl
          have hxo := hok.out x (List.mem_of_getElem? hx)
          have y0 := hO.upd.cell x0 fun h => h
          have y1 := hO.upd.cell x1 fun h => h
          have y2 := hO.upd.cell x2 fun h => h
          have hgo := hO.own
          have hM9 : M < wr.heap.size := World.block_lt_of_cell? _ _ y9
          have hgl9 : gl < wr.heap.size := World.block_lt_of_cell? _ _ y0
          clear x0 x1 x2 hx
          have hstep := Lib.hid (fun w' (h1 : Ours w w' r g N B) (h2 : Pages w' (.slice av N cv) B N) => lStep h1 _ h2 (fun q hq => (hap q hq).1) x hxo)
          obtain ⟨x1, x2, x3⟩ := x
          simp only at y0 y1 y2
          go_wp2_with fail
          go_region_held3 (fun w' => w'.cell? ⟨M, 0, none⟩ = some (.slice av N cv) ∧ w'.cell? ⟨gl, off + k * 3, none⟩ = some (.int .i64 x1) ∧ w'.cell? ⟨gl, off + k * 3 + 1, none⟩ = some (.int .i64 x2) ∧ w'.cell? ⟨gl, off + k * 3 + 2, none⟩ = some (.int .i64 x3)) (first | exact ⟨q9, q0, q1, q2⟩ | exact ⟨keep3 (by clear hwh; omega) q9, keep3 (by clear hwh; omega) q0, keep3 (by clear hwh; omega) q1, keep3 (by clear hwh; omega) q2⟩ | exact ⟨(Upd.alloc Non _ _).cell q9 fun h => h, (Upd.alloc Non _ _).cell q0 fun h => h, (Upd.alloc Non _ _).cell q1 fun h => h, (Upd.alloc Non _ _).cell q2 fun h => h⟩ | exact ⟨y9, y0, y1, y2⟩ | exact ⟨(Upd.alloc Non _ _).cell y9 fun h => h, (Upd.alloc Non _ _).cell y0 fun h => h, (Upd.alloc Non _ _).cell y1 fun h => h, (Upd.alloc Non _ _).cell y2 fun h => h⟩ | go_keep)
            (first | (go_at_call 18; refine (hstep.out _ (hO.non (by (repeat (first | (with_reducible exact Upd.refl _ _) | (with_reducible assumption) | (with_reducible refine Upd.then_drew ?_) | (with_reducible refine Upd.then_drewN ?_ _) | (with_reducible refine Upd.then_alloc ?_ _) | (with_reducible refine Upd.then_setCell ?_ (fun h => absurd h (by simp <;> omega)) _) | (with_reducible refine Upd.trans ?_ (Upd.non (by assumption)) (fun _ _ h => h)))))) (hPg.non (by (repeat (first | (with_reducible exact Upd.refl _ _) | (with_reducible assumption) | (with_reducible refine Upd.then_drew ?_) | (with_reducible refine Upd.then_drewN ?_ _) | (with_reducible refine Upd.then_alloc ?_ _) | (with_reducible refine Upd.then_setCell ?_ (fun h => absurd h (by simp <;> omega)) _) | (with_reducible refine Upd.trans ?_ (Upd.non (by assumption)) (fun _ _ h => h))))))).mono ?_; rintro e w3 ⟨r', g', v', B', rfl, hO3, hP3, hv3, hu3, hfr3, hwh⟩; obtain ⟨av', cv', hv', -⟩ := pages_at hP3; subst hv'; have q9 := hu3.cell (a := ⟨M, 0, none⟩) (by first | exact y9 | exact (Upd.alloc Non _ _).cell y9 fun h => h) (by clear hwh; dsimp only; omega); have q0 := hu3.cell (a := ⟨gl, off + k * 3, none⟩) (by first | exact y0 | exact (Upd.alloc Non _ _).cell y0 fun h => h) (by clear hwh; dsimp only; omega); have q1 := hu3.cell (a := ⟨gl, off + k * 3 + 1, none⟩) (by first | exact y1 | exact (Upd.alloc Non _ _).cell y1 fun h => h) (by clear hwh; dsimp only; omega); have q2 := hu3.cell (a := ⟨gl, off + k * 3 + 2, none⟩) (by first | exact y2 | exact (Upd.alloc Non _ _).cell y2 fun h => h) (by clear hwh; dsimp only; omega); have qa := hu3.cell (a := ⟨wr.heap.size, 0, none⟩) ((cells_of (heap_alloc_new wr.drew (.cells #[.slice none 0 0] 44))).1 0) (by have := hO.at_.live.2; clear hwh; dsimp only; omega); have qf := (World.frozen?_of_block (a := ⟨wr.heap.size, 0, none⟩) (hu3.block wr.heap.size (by simp) (by have := hO.at_.live.2; clear hwh; omega))).trans ((cells_of (heap_alloc_new wr.drew (.cells #[.slice none 0 0] 44))).2 0)) | (go_at_call 18; refine (hstep.out _ (hO.non (by (repeat (first | (with_reducible exact Upd.refl _ _) | (with_reducible assumption) | (with_reducible refine Upd.then_drew ?_) | (with_reducible refine Upd.then_drewN ?_ _) | (with_reducible refine Upd.then_alloc ?_ _) | (with_reducible refine Upd.then_setCell ?_ (fun h => absurd h (by simp <;> omega)) _) | (with_reducible refine Upd.trans ?_ (Upd.non (by assumption)) (fun _ _ h => h)))))) (hPg.non (by (repeat (first | (with_reducible exact Upd.refl _ _) | (with_reducible assumption) | (with_reducible refine Upd.then_drew ?_) | (with_reducible refine Upd.then_drewN ?_ _) | (with_reducible refine Upd.then_alloc ?_ _) | (with_reducible refine Upd.then_setCell ?_ (fun h => absurd h (by simp <;> omega)) _) | (with_reducible refine Upd.trans ?_ (Upd.non (by assumption)) (fun _ _ h => h))))))).mono ?_; rintro e w3 ⟨r', g', v', B', rfl, hO3, hP3, hv3, hu3, hfr3, hwh⟩; obtain ⟨av', cv', hv', -⟩ := pages_at hP3; subst hv'; have q9 := hu3.cell (a := ⟨M, 0, none⟩) (by first | exact y9 | exact (Upd.alloc Non _ _).cell y9 fun h => h) (by clear hwh; dsimp only; omega); have q0 := hu3.cell (a := ⟨gl, off + k * 3, none⟩) (by first | exact y0 | exact (Upd.alloc Non _ _).cell y0 fun h => h) (by clear hwh; dsimp only; omega); have q1 := hu3.cell (a := ⟨gl, off + k * 3 + 1, none⟩) (by first | exact y1 | exact (Upd.alloc Non _ _).cell y1 fun h => h) (by clear hwh; dsimp only; omega); have q2 := hu3.cell (a := ⟨gl, off + k * 3 + 2, none⟩) (by first | exact y2 | exact (Upd.alloc Non _ _).cell y2 fun h => h) (by clear hwh; dsimp only; omega)))
          all_goals first
            | (have hbo := Both.ofStore hO hN.1 hPg hap y9f hM9 ⟨ne1, ne2⟩ hMo hO3 hP3 hv3 hu3 (by (repeat (first | (with_reducible exact Upd.refl _ _) | (with_reducible assumption) | (with_reducible refine Upd.then_drew ?_) | (with_reducible refine Upd.then_drewN ?_ _) | (with_reducible refine Upd.then_alloc ?_ _) | (with_reducible refine Upd.then_setCell ?_ (fun h => absurd h (by simp <;> omega)) _) | (with_reducible refine Upd.trans ?_ (Upd.non (by assumption)) (fun _ _ h => h))))) (by simp) hfr3 hwh q9 qa qf; generalize w3.setCell ⟨wr.heap.size, 0, none⟩ (.slice av' N cv') = W4 at hbo ⊢; generalize wr.heap.size = m at hbo ⊢)
            | (have hbo := Both.ofAlloc (T := 44) hO hN.1 hPg hap y9f hM9 ⟨ne1, ne2⟩ hMo hO3 hP3 hv3 hu3 (by (repeat (first | (with_reducible exact Upd.refl _ _) | (with_reducible assumption) | (with_reducible refine Upd.then_drew ?_) | (with_reducible refine Upd.then_drewN ?_ _) | (with_reducible refine Upd.then_alloc ?_ _) | (with_reducible refine Upd.then_setCell ?_ (fun h => absurd h (by simp <;> omega)) _) | (with_reducible refine Upd.trans ?_ (Upd.non (by assumption)) (fun _ _ h => h))))) hfr3 hwh q9; generalize w3.alloc (.cells #[.slice av' N cv'] 44) = W4 at hbo ⊢; generalize w3.heap.size = m at hbo ⊢)
          all_goals
            have hO4 := hbo.play.ours
            have hP4 := hbo.play.pages
            have y5 := hbo.play.cell
            have hlen := rowsN_length B' N
            have hsame := Lib.hid (fun (va vb : Value) w (h1 : RowsAt w va (rowsN B' N)) (h2 : RowsAt w vb (rowsN B' N)) => (refSame va vb (rowsN B' N) (rowsN B' N) w h1 h2 (by omega)))
            simp only [decide_true] at hsame
            replace hbo := Lib.hid hbo
            clear hu3 hwh hfr3 hP3 hv3 hO3 hap hPg hO hstep y0 y1 y2 y9 y9f q9 q0 q1 q2 hlen
            go_wp2_with fail
          all_goals
            go_region_held3 (fun w' => w'.cell? ⟨m, 0, none⟩ = some (.slice av' N cv')) (first | exact y10 | exact y9 | exact y8 | exact y7 | exact y6 | exact y5 | go_keep)
              (first | (go_at_call 11; refine (aFree _ _ _ _ _ ((hO4.non (by (repeat (first | (with_reducible exact Upd.refl _ _) | (with_reducible assumption) | (with_reducible refine Upd.then_drew ?_) | (with_reducible refine Upd.then_drewN ?_ _) | (with_reducible refine Upd.then_alloc ?_ _) | (with_reducible refine Upd.then_setCell ?_ (fun h => absurd h (by simp <;> omega)) _) | (with_reducible refine Upd.trans ?_ (Upd.non (by assumption)) (fun _ _ h => h)))))).at_)).mono ?_; rintro e w6 ⟨rfl, hu6⟩; have y6 := hu6.cell (a := ⟨m, 0, none⟩) (by first | exact y9 | exact y8 | exact y7 | exact y6 | exact y5) fun h => h) | (go_at_call 19; refine (refFree _ _ _ _ (hP4.non (by (repeat (first | (with_reducible exact Upd.refl _ _) | (with_reducible assumption) | (with_reducible refine Upd.then_drew ?_) | (with_reducible refine Upd.then_drewN ?_ _) | (with_reducible refine Upd.then_alloc ?_ _) | (with_reducible refine Upd.then_setCell ?_ (fun h => absurd h (by simp <;> omega)) _) | (with_reducible refine Upd.trans ?_ (Upd.non (by assumption)) (fun _ _ h => h)))))) hN).mono ?_; rintro e w7 ⟨rfl, hu7⟩; have y7 := hu7.cell (a := ⟨m, 0, none⟩) (by first | exact y9 | exact y8 | exact y7 | exact y6 | exact y5) fun h => h) | (go_at_call 10; refine (aRows _ _ _ _ _ ((hO4.non (by (repeat (first | (with_reducible exact Upd.refl _ _) | (with_reducible assumption) | (with_reducible refine Upd.then_drew ?_) | (with_reducible refine Upd.then_drewN ?_ _) | (with_reducible refine Upd.then_alloc ?_ _) | (with_reducible refine Upd.then_setCell ?_ (fun h => absurd h (by simp <;> omega)) _) | (with_reducible refine Upd.trans ?_ (Upd.non (by assumption)) (fun _ _ h => h)))))).at_)).mono ?_; rintro e w8 ⟨vr, rfl, hR8, hu8, -⟩; have y8 := hu8.cell (a := ⟨m, 0, none⟩) (by first | exact y9 | exact y8 | exact y7 | exact y6 | exact y5) fun h => h) | (go_at_call 20; refine (refRows _ _ _ _ (hP4.non (by (repeat (first | (with_reducible exact Upd.refl _ _) | (with_reducible assumption) | (with_reducible refine Upd.then_drew ?_) | (with_reducible refine Upd.then_drewN ?_ _) | (with_reducible refine Upd.then_alloc ?_ _) | (with_reducible refine Upd.then_setCell ?_ (fun h => absurd h (by simp <;> omega)) _) | (with_reducible refine Upd.trans ?_ (Upd.non (by assumption)) (fun _ _ h => h)))))) hN).mono ?_; rintro e w9 ⟨vs, rfl, hR9, hu9, -⟩; have y9 := hu9.cell (a := ⟨m, 0, none⟩) (by first | exact y9 | exact y8 | exact y7 | exact y6 | exact y5) fun h => h) | (go_at_call 13; refine (hsame.out _ _ _ (hR8.non (by (repeat (first | (with_reducible exact Upd.refl _ _) | (with_reducible assumption) | (with_reducible refine Upd.then_drew ?_) | (with_reducible refine Upd.then_drewN ?_ _) | (with_reducible refine Upd.then_alloc ?_ _) | (with_reducible refine Upd.then_setCell ?_ (fun h => absurd h (by simp <;> omega)) _) | (with_reducible refine Upd.trans ?_ (Upd.non (by assumption)) (fun _ _ h => h)))))) (hR9.non (by (repeat (first | (with_reducible exact Upd.refl _ _) | (with_reducible assumption) | (with_reducible refine Upd.then_drew ?_) | (with_reducible refine Upd.then_drewN ?_ _) | (with_reducible refine Upd.then_alloc ?_ _) | (with_reducible refine Upd.then_setCell ?_ (fun h => absurd h (by simp <;> omega)) _) | (with_reducible refine Upd.trans ?_ (Upd.non (by assumption)) (fun _ _ h => h))))))).mono ?_; rintro e w10 ⟨rfl, hu10⟩; have y10 := hu10.cell (a := ⟨m, 0, none⟩) (by first | exact y9 | exact y8 | exact y7 | exact y6 | exact y5) fun h => h; have hU10 : Upd Non W4 w10 := by (repeat (first | (with_reducible exact Upd.refl _ _) | (with_reducible assumption) | (with_reducible refine Upd.then_drew ?_) | (with_reducible refine Upd.then_drewN ?_ _) | (with_reducible refine Upd.then_alloc ?_ _) | (with_reducible refine Upd.then_setCell ?_ (fun h => absurd h (by simp <;> omega)) _) | (with_reducible refine Upd.trans ?_ (Upd.non (by assumption)) (fun _ _ h => h))))))
          all_goals
            have hbo2 := hbo.out
            obtain ⟨uM, y11⟩ := hbo2.cell
            have f11 := hbo2.free
            have hmM : M ≠ m := hbo2.ne.2.2
            have y12 := hU10.cell y11 fun h => h
            have f12 : w10.frozen? ⟨M, 0, none⟩ = false := (World.frozen?_of_block (a := ⟨M, 0, none⟩) (hU10.block M (World.block_lt_of_cell? _ _ y11) fun h => h)).trans f11
            clear hO4 hP4 hR8 hR9 hu6 hu7 hu8 hu9 hu10 y5 y6 y7 y8 y9 hbo2 hsame y11 f11
            go_wp2_with fail
            go_region_held3 (fun w' => w'.cell? ⟨m, 0, none⟩ = some (.slice av' N cv')) (first | exact y10 | exact keep3 (by omega) y10 | go_keep) (fail)
          all_goals
            have hpl := hbo.out.round hU10 y12 f12
            clear hbo hU10 y12 f12 y10
            go_wp2_with fail
            go_roundw
            case rel => exact ⟨k + 1, r', g', B', _, rfl, by go_num, by omega, hpl⟩
            case measure => simp [intOf]; omega
        · obtain rfl : k = l.length := by omega
          have hkl' : ¬ ((l.length : Nat) : Int) < (l.length : Int) := by omega
          obtain ⟨a3, c3, hv3, hnc, hcm, hcell⟩ := pages_at hPg
          injection hv3 with hv3 _ hv4
          subst hv3
          subst hv4
          have hhas := Lib.hid (aHas r g N B i wr hO.at_)
          have hU := hO.upd
          clear hap hMo ne1 ne2 y9f hat hok
          by_cases h0 : 0 ≤ i
          · obtain ⟨p, rfl⟩ := Int.eq_ofNat_of_zero_le h0
            by_cases hp : p < N
            · have hp' : (p : Int) < (N : Int) := by omega
              obtain ⟨gp, op, rfl, hcp⟩ := hcell p hp
              rw [show decide (0 ≤ (p : Int) ∧ (p : Int) < (N : Int)) = true by simp; omega, Bool.true_and, Int.toNat_natCast] at hhas
              clear hcell hO hPg
              generalize B.testBit p = x at *
              go_wp2_with fail
              refine hhas.out.mono ?_
              rintro e w3 ⟨rfl, u3⟩
              have z9 := u3.cell y9 fun h => h
              have z1 := u3.cell hcp fun h => h
              have hU3 := hU.trans u3 fun _ _ h => h
              clear u3 hU y9 hcp hhas
              cases x <;>
              · go_wp2_with fail
                refine (lives07 _).mono ?_
                rintro e w4 ⟨rfl, u4⟩
                have t := hU3.trans u4 fun _ _ h => h
                go_wp2_with fail
                go_ret
                exact ⟨rfl, t⟩
            · have hp' : ¬ (p : Int) < (N : Int) := by omega
              rw [show decide (0 ≤ (p : Int) ∧ (p : Int) < (N : Int)) = false by simp; omega, Bool.false_and] at hhas
              clear hcell hO hPg
              go_wp2_with fail
              refine hhas.out.mono ?_
              rintro e w3 ⟨rfl, u3⟩
              have hU3 := hU.trans u3 fun _ _ h => h
              clear u3 hU hhas
              go_wp2_with fail
              refine (lives07 _).mono ?_
              rintro e w4 ⟨rfl, u4⟩
              have t := hU3.trans u4 fun _ _ h => h
              go_wp2_with fail
              go_ret
              exact ⟨rfl, t⟩
          · rw [show decide (0 ≤ i ∧ i < (N : Int)) = false by simp; omega, Bool.false_and] at hhas
            clear hcell hO hPg
            go_wp2_with fail
            refine hhas.out.mono ?_
            rintro e w3 ⟨rfl, u3⟩
            have hU3 := hU.trans u3 fun _ _ h => h
            clear u3 hU hhas
            go_wp2_with fail
            refine (lives07 _).mono ?_
            rintro e w4 ⟨rfl, u4⟩
            have t := hU3.trans u4 fun _ _ h => h
            go_wp2_with fail
            go_ret
            exact ⟨rfl, t⟩
end Go.Proofs.Yteeppclnmjlcbaa
