/- A disk of the call's own, from call to call. -/
import Derived.Test.YtmnoldikimcafaaMBlJ
import Derived.Lib.SlBytesConst
namespace Go.Amb
open Go.RowKit
def Dk.reads (d : Dk) (i : Int) : List UInt8 := if d.within i = 0 then d.has i.toNat else []
theorem lastAt_mem {P : List (List UInt8 × Nat)} {i : Nat} {s : List UInt8} (h : lastAt P i = some s) : (s, i) ∈ P := by
  unfold lastAt at h
  rw [Option.map_eq_some_iff] at h
  obtain ⟨p, hp, rfl⟩ := h
  have h1 := List.mem_of_find?_eq_some hp
  have h2 := List.find?_some hp
  rw [decide_eq_true_eq] at h2
  rw [List.mem_reverse] at h1
  rw [← h2]; exact h1
theorem Dk.Ok.has {d : Dk} (h : d.Ok) {i : Nat} (hi : i < d.K.length) : (d.has i).length = 128 := by
  unfold Dk.has
  cases hl : lastAt d.P i with
  | none => simp [List.getD_eq_getElem?_getD, List.getElem?_eq_getElem hi, h.k _ (List.getElem_mem hi)]
  | some s => exact (h.p _ (lastAt_mem hl)).1
end Go.Amb
namespace Go.Proofs.Ytmnoldikimcafaa
set_option maxRecDepth 100000
open Go.RowKit Go.Amb Go.Shelf
set_option linter.unusedVariables false
theorem lReadAll {w : World} {D : Nat} {F : Nat → Prop} {d : Dk} (h : DiskAt w D F d) (hn : d.P.length ≤ 1000000) (i : Int) :
    Calls Try.prog 56 #[.pointer (some ⟨D, 0, none⟩), .int .i64 i] w (fun en w' => ∃ v, en = .returned (.tuple #[v, .int .i64 (d.within i)]) ∧ Bytes w' v (d.reads i) ∧ Upd Non w w' ∧ ∀ k, At v k → w.heap.size ≤ k ∧ k < w'.heap.size) := by
  by_cases hw : d.within i = 0
  · obtain ⟨hd, h0, h1⟩ := Dk.within_0 hw
    obtain ⟨j, rfl⟩ := Int.eq_ofNat_of_zero_le h0
    have hj : j < d.K.length := by omega
    refine (lReadD h hn j hd hj).mono ?_
    rintro en w' ⟨v, rfl, hB, hu, hv⟩
    have hr : d.reads (j : Int) = d.has j := by unfold Dk.reads; rw [if_pos hw, Int.toNat_natCast]
    refine ⟨v, by rw [hw], by rw [hr]; exact hB, hu, fun k hk => ⟨hv k hk, ?_⟩⟩
    have hl := h.ok.has hj
    obtain ⟨_, a, c, rfl, -, -, h3⟩ := hB
    rcases h3 with h3 | ⟨g, off, rfl, hc⟩
    · omega
    · obtain rfl : g = k := by simpa [At, Value.ownBlock] using hk
      exact World.block_lt_of_cell? w' _ (hc 0 _ ((bc_get _ 0 _).2 ⟨by omega, rfl⟩))
  · refine (lReadNo h i hw).mono ?_
    rintro en w' ⟨rfl, hu⟩
    have hr : d.reads i = [] := by unfold Dk.reads; rw [if_neg hw]
    exact ⟨_, rfl, by rw [hr]; exact Has.nil _ _, hu, fun k hk => by simp [At, Value.ownBlock] at hk⟩
/-- A disk that the call has made: F: its blocks. -/
structure Lv (w0 : World) (D : Nat) (w : World) (F : Nat → Prop) (d : Dk) : Prop where
  at_ : DiskAt w D F d
  upd : Upd Non w0 w
  own : ∀ k, F k → w0.heap.size ≤ k
/-- What a step keeps. -/
structure Kp (w : World) (F : Nat → Prop) (w' : World) (F' : Nat → Prop) : Prop where
  upd : Upd F w w'
  own : ∀ k, F' k → F k ∨ w.heap.size ≤ k
theorem Kp.trans {w1 w2 w3 : World} {F1 F2 F3 : Nat → Prop} (h : Kp w1 F1 w2 F2) (k : Kp w2 F2 w3 F3) : Kp w1 F1 w3 F3 :=
  ⟨h.upd.trans k.upd fun j hj hF => (h.own j hF).elim id fun h => by omega, fun j hj => (k.own j hj).elim (h.own j) fun h' => .inr (Nat.le_trans h.upd.size h')⟩
theorem Kp.non {w w' : World} {F : Nat → Prop} (h : Upd Non w w') : Kp w F w' F := ⟨h.non, fun _ h => .inl h⟩
theorem Lv.non {w0 w w' : World} {D : Nat} {F : Nat → Prop} {d : Dk} (h : Lv w0 D w F d) (hu : Upd Non w w') : Lv w0 D w' F d := ⟨h.at_.non hu, h.upd.trans hu fun _ _ h => h, h.own⟩
theorem Lv.step {w0 w w' : World} {D : Nat} {F : Nat → Prop} {d d' : Dk} {v : Value} {en : Ending} (h : Lv w0 D w F d) (hs : Stepped w D F d' v en w') : en = .returned v ∧ ∃ F', Lv w0 D w' F' d' ∧ Kp w F w' F' := by
  obtain ⟨he, F', hD, hu, hF⟩ := hs
  have hsz := h.upd.size
  exact ⟨he, F', ⟨hD, h.upd.trans hu fun k hk hF => by have := h.own k hF; omega, fun k hk => (hF k hk).elim (h.own k) fun h => by omega⟩, ⟨hu, hF⟩⟩
/-- Bytes that are none of the disk's. -/
structure Apart (w : World) (F : Nat → Prop) (v : Value) (s : List UInt8) : Prop where
  has : Bytes w v s
  apart : ∀ k, At v k → ¬ F k ∧ k < w.heap.size
theorem Apart.keep {w w' : World} {F F' : Nat → Prop} {v : Value} {s : List UInt8} (h : Apart w F v s) (hk : Kp w F w' F') : Apart w' F' v s :=
  ⟨h.has.upd hk.upd fun k hv => (h.apart k hv).1, fun k hv => ⟨fun hF => (hk.own k hF).elim (h.apart k hv).1 fun h' => by have := (h.apart k hv).2; omega, Nat.lt_of_lt_of_le (h.apart k hv).2 hk.upd.size⟩⟩
section
variable {w0 w : World} {D : Nat} {F : Nat → Prop} {d : Dk}
theorem lvWrite (h : Lv w0 D w F d) (hn : d.P.length ≤ 1000000) (i : Int) (s : List UInt8) (v : Value) (hB : Bytes w v s) (hv : ∀ k, At v k → ¬ F k) :
    Calls Try.prog 28 #[.pointer (some ⟨D, 0, none⟩), .int .i64 i, v] w (fun en w' => en = .returned (.int .i64 (d.write i s).2) ∧ ∃ F', Lv w0 D w' F' (d.write i s).1 ∧ Kp w F w' F') :=
  (lWrite h.at_ hn i s v hB hv).mono fun en w' hs => h.step hs
theorem lvFlush (h : Lv w0 D w F d) (hn : d.P.length ≤ 1000000) :
    Calls Try.prog 30 #[.pointer (some ⟨D, 0, none⟩)] w (fun en w' => en = .returned (.int .i64 d.flush.2) ∧ ∃ F', Lv w0 D w' F' d.flush.1 ∧ Kp w F w' F') :=
  (lFlush h.at_ hn).mono fun en w' hs => h.step hs
theorem lvCrash (h : Lv w0 D w F d) (hn : d.P.length ≤ 1000000) (v : Value) (l : List Int) (hB : Ints w v l) (hv : 0 < l.length → ∀ k, At v k → ¬ F k) :
    Calls Try.prog 11 #[.pointer (some ⟨D, 0, none⟩), v] w (fun en w' => en = .returned (.int .i64 0) ∧ ∃ F', Lv w0 D w' F' (d.crash l) ∧ Kp w F w' F') :=
  (lCrash h.at_ hn v l hB hv).mono fun en w' hs => h.step hs
theorem lvRead (h : Lv w0 D w F d) (hn : d.P.length ≤ 1000000) (i : Int) :
    Calls Try.prog 56 #[.pointer (some ⟨D, 0, none⟩), .int .i64 i] w (fun en w' => ∃ v, en = .returned (.tuple #[v, .int .i64 (d.within i)]) ∧ Apart w' F v (d.reads i) ∧ Lv w0 D w' F d ∧ Upd Non w w') :=
  (lReadAll h.at_ hn i).mono fun en w' ⟨v, he, hB, hu, hv⟩ => ⟨v, he, ⟨hB, fun k hk => ⟨fun hF => by have := h.at_.lt k hF; have := (hv k hk).1; omega, (hv k hk).2⟩⟩, h.non hu, hu⟩
theorem lvNew (n : Nat) (h1 : 1 ≤ n) (h2 : n ≤ 16384) (w : World) : Calls Try.prog 6 #[.int .i64 (n : Int)] w (fun en w' => ∃ D F, en = .returned (.tuple #[.pointer (some ⟨D, 0, none⟩), .int .i64 0]) ∧ Lv w D w' F (Dk.new n)) :=
  (lNew n h1 h2 w).mono fun en w' ⟨D, F, he, hD, hu, hF⟩ => ⟨D, F, he, hD, hu, hF⟩
end
end Go.Proofs.Ytmnoldikimcafaa

namespace Go.Proofs.Ytmnoldikimcafaa
open Go.RowKit Go.Amb Go.Shelf
set_option linter.unusedVariables false
set_option linter.unusedSimpArgs false
set_option maxRecDepth 100000
theorem bytes_at {w : World} {v : Value} {s : List UInt8} (h : Bytes w v s) (hs : 0 < s.length) : ∃ g off cap, v = .slice (some ⟨g, off, none⟩) s.length cap ∧ s.length ≤ cap ∧ cap ≤ maxLen ∧ ∀ j (hj : j < s.length), w.cell? ⟨g, off + j, none⟩ = some (.int .u8 (s[j].toNat : Int)) := by
  obtain ⟨_, a, c, rfl, h1, h2, h3⟩ := h
  obtain ⟨g, off, rfl, hc⟩ := h3.resolve_left (by omega)
  exact ⟨g, off, c, rfl, h1, h2, fun j hj => hc j _ ((bc_get s j _).2 ⟨hj, rfl⟩)⟩
theorem bytes_const (w : World) (e : TypeId) (l : List UInt8) (m : Nat × Nat) (h : l.length ≤ maxLen) : Bytes (w.alloc (.cells (bc l).toArray e m)) (.slice (some ⟨w.heap.size, 0, none⟩) l.length l.length) l :=
  ⟨by rw [bc_length, Nat.mul_one], _, _, rfl, Nat.le_refl _, h, .inr ⟨w.heap.size, 0, rfl, fun j u hj => by rw [Nat.zero_add, World.cell?_alloc_mark]; simpa using hj⟩⟩
/-- A sector's bytes as a slice: its form, and its first byte. -/
theorem sector_at {w : World} {F : Nat → Prop} {v : Value} {s : List UInt8} {x : UInt8} (h : Apart w F v s) (hl : s.length = 128) (hx : s[0]? = some x) : ∃ g off c, v = .slice (some ⟨g, off, none⟩) 128 c := by
  obtain ⟨g, off, c, rfl, -⟩ := bytes_at h.has (by omega)
  rw [hl]; exact ⟨g, off, c, rfl⟩
theorem sector_0 {w : World} {g off c : Nat} {s : List UInt8} {x : UInt8} (h : Bytes w (.slice (some ⟨g, off, none⟩) 128 c) s) (hl : s.length = 128) (hx : s[0]? = some x) : w.cell? ⟨g, off, none⟩ = some (.int .u8 (x.toNat : Int)) := by
  obtain ⟨g', off', c', h1, -, -, hc⟩ := bytes_at h (by omega)
  injection h1 with h1
  injection h1 with h1
  injection h1 with h1 h2
  subst h1 h2
  have := hc 0 (by omega)
  rw [Nat.add_zero] at this
  rw [this]
  rw [List.getElem?_eq_getElem (by omega)] at hx
  injection hx with hx
  rw [hx]
end Go.Proofs.Ytmnoldikimcafaa

namespace Go.Proofs.Ytmnoldikimcafaa
open Go.RowKit Go.Amb Go.Shelf
set_option linter.unusedVariables false
set_option linter.unusedSimpArgs false
set_option maxRecDepth 100000
/-- No disk, or one that nothing made. -/
def NoDisk (w : World) (v : Value) : Prop := v = .pointer none ∨ ∃ D, v = .pointer (some ⟨D, 0, none⟩) ∧ w.heap[D]? = some (.cells #[.slice none 0 0, .slice none 0 0, .int .i64 0, .bool false] 48 (0, 0))
theorem NoDisk.non {w w' : World} {v : Value} (h : NoDisk w v) (hu : Upd Non w w') : NoDisk w' v := by
  rcases h with h | ⟨D, h, hX⟩
  · exact .inl h
  · exact .inr ⟨D, h, hu.heap hX fun h => h⟩
theorem nMade {w : World} {v : Value} (h : NoDisk w v) : Calls Try.prog 31 #[v] w (Ret (.bool false) w) := by
  rcases h with rfl | ⟨D, rfl, hX⟩
  · go_enter Try.func31, Try.ntmps31
    go_wp2_with fail
    go_ret
    exact ⟨rfl, Upd.refl _ _⟩
  · have x0 : w.cell? ⟨D, 0, none⟩ = some (.slice none 0 0) := (cells_of hX).1 0
    clear hX
    go_enter Try.func31, Try.ntmps31
    go_wp2_with fail
    go_ret
    exact ⟨rfl, Upd.refl _ _⟩
theorem nMay {w : World} {v : Value} (h : NoDisk w v) : Calls Try.prog 53 #[v] w (Ret (.int .i64 1) w) := by
  have cM := Lib.hid (fun w' (hu : Upd Non w w') => nMade (h.non hu))
  clear h
  go_enter Try.func53, Try.ntmps53
  go_wp2_with fail
  refine (cM.out _ (Upd.refl _ _)).mono ?_
  rintro en w1 ⟨rfl, hu1⟩
  have hU := hu1
  simp only []
  go_wp2_with fail
  go_ret
  exact ⟨rfl, hU⟩
theorem nWithin {w : World} {v : Value} (h : NoDisk w v) (i : Int) : Calls Try.prog 51 #[v, .int .i64 i] w (Ret (.int .i64 1) w) := by
  have cM := Lib.hid (fun w' (hu : Upd Non w w') => nMay (h.non hu))
  clear h
  go_enter Try.func51, Try.ntmps51
  go_wp2_with fail
  refine (cM.out _ (Upd.refl _ _)).mono ?_
  rintro en w1 ⟨rfl, hu1⟩
  have hU := hu1
  simp only []
  go_wp2_with fail
  go_ret
  exact ⟨rfl, hU⟩
theorem nRead {w : World} {v : Value} (h : NoDisk w v) (i : Int) : Calls Try.prog 56 #[v, .int .i64 i] w (Ret (.tuple #[.slice none 0 0, .int .i64 1]) w) := by
  have cM := Lib.hid (fun w' (hu : Upd Non w w') => nWithin (h.non hu) i)
  clear h
  go_enter Try.func56, Try.ntmps56
  go_wp2_with fail
  refine (cM.out _ ((Upd.refl Non w).then_alloc _)).mono ?_
  rintro en w1 ⟨rfl, hu1⟩
  have hU := ((Upd.refl Non w).then_alloc _).trans hu1 fun _ _ h => h
  simp only []
  go_wp2_with fail
  go_ret2
  exact ⟨by simp, hU⟩
theorem nWrite {w : World} {v : Value} (h : NoDisk w v) (i : Int) (a : Option Addr) (n c : Nat) : Calls Try.prog 28 #[v, .int .i64 i, .slice a n c] w (Ret (.int .i64 1) w) := by
  have cM := Lib.hid (fun w' (hu : Upd Non w w') => nWithin (h.non hu) i)
  clear h
  go_enter Try.func28, Try.ntmps28
  go_wp2_with fail
  refine (cM.out _ (Upd.refl _ _)).mono ?_
  rintro en w1 ⟨rfl, hu1⟩
  have hU := hu1
  simp only []
  go_wp2_with fail
  go_ret
  exact ⟨rfl, hU⟩
theorem nFlush {w : World} {v : Value} (h : NoDisk w v) : Calls Try.prog 30 #[v] w (Ret (.int .i64 1) w) := by
  have cM := Lib.hid (fun w' (hu : Upd Non w w') => nMay (h.non hu))
  clear h
  go_enter Try.func30, Try.ntmps30
  go_wp2_with fail
  refine (cM.out _ (Upd.refl _ _)).mono ?_
  rintro en w1 ⟨rfl, hu1⟩
  have hU := hu1
  simp only []
  go_wp2_with fail
  go_ret
  exact ⟨rfl, hU⟩
theorem nCrash {w : World} {v : Value} (h : NoDisk w v) (a : Option Addr) (n c : Nat) : Calls Try.prog 11 #[v, .slice a n c] w (Ret (.int .i64 1) w) := by
  have cM := Lib.hid (fun w' (hu : Upd Non w w') => nMade (h.non hu))
  clear h
  go_enter Try.func11, Try.ntmps11
  go_wp2_with fail
  refine (cM.out _ ((Upd.refl Non w).then_alloc _)).mono ?_
  rintro en w1 ⟨rfl, hu1⟩
  have hU := ((Upd.refl Non w).then_alloc _).trans hu1 fun _ _ h => h
  simp only []
  go_wp2_with fail
  go_ret
  exact ⟨rfl, hU⟩
theorem nSize {w : World} {v : Value} (h : NoDisk w v) : Calls Try.prog 20 #[v] w (Ret (.int .i64 0) w) := by
  have cM := Lib.hid (fun w' (hu : Upd Non w w') => nMade (h.non hu))
  clear h
  go_enter Try.func20, Try.ntmps20
  go_wp2_with fail
  refine (cM.out _ (Upd.refl _ _)).mono ?_
  rintro en w1 ⟨rfl, hu1⟩
  have hU := hu1
  simp only []
  go_wp2_with fail
  go_ret
  exact ⟨rfl, hU⟩
theorem nCopy {w : World} {v : Value} (h : NoDisk w v) : Calls Try.prog 19 #[v] w (Ret (.pointer none) w) := by
  have cM := Lib.hid (fun w' (hu : Upd Non w w') => nMade (h.non hu))
  clear h
  go_enter Try.func19, Try.ntmps19
  go_wp2_with fail
  refine (cM.out _ (Upd.refl _ _)).mono ?_
  rintro en w1 ⟨rfl, hu1⟩
  have hU := hu1
  simp only []
  go_wp2_with fail
  go_ret
  exact ⟨rfl, hU⟩
end Go.Proofs.Ytmnoldikimcafaa
