/- The reference's disk: a struct by value. -/
import Derived.Test.YtgdkgnolkepgdaaMBlT
import Derived.Test.YtgdkgnolkepgdaaMBlU
import Derived.Laws.MakeOwn
namespace Go.Amb
open Go.RowKit
/-- A pending write, as the reference has it. -/
def wc (p : List UInt8 × Nat) : List Value := [.int .i64 (p.2 : Int), strV p.1]
end Go.Amb
namespace Go.Proofs.Ytgdkgnolkepgdaa
open Go.RowKit Go.Amb Go.Shelf
set_option linter.unusedVariables false
set_option linter.unusedSimpArgs false
set_option maxRecDepth 100000
/-- The reference's disk as a value: r: its sectors may be shorter than 128 bytes (what lacks are noughts). -/
def rfv (r : Dk) (kv pv : Value) : Value := .agg #[.int .i64 (r.K.length : Nat), kv, pv, .int .i64 r.f, .bool r.dd]
structure RAt (w : World) (r : Dk) (kv pv : Value) : Prop where
  k : Has w 1 kv r.K.length (r.K.map strV)
  p : Has w 2 pv r.P.length (r.P.map wc).flatten
theorem run_makeB (m : Nat) (hm : m ≤ 1000000) (w : World) : (Instr.makeSlice 24 (.int .i64 (m : Int)) (.int .i64 (m : Int))).run Try.prog w = .ok (.slice (some ⟨w.heap.size, 0, none⟩) m m) (w.alloc (.cells (Array.replicate m (.int .u8 0)) 5)) := by
  obtain ⟨i, hi, hz0, hsz, hby⟩ := info_parts (show (Try.prog.info? 5).map (fun i => (i.zero, i.size, i.bytes)) = some (some (.int .u8 0), 1, 1) by kernel_rfl)
  have hr := run_make (P := Try.prog) w 24 5 i _ Try.underlying24 hi hz0 .i64 .i64 (m : Int) (m : Int) (by omega) (by omega) (by rw [hby]; omega) (by omega)
  rw [hr, hsz]
  simp only [Int.toNat_natCast, Nat.mul_one]
  congr 3
  apply Array.ext_getElem?
  intro k
  simp only [madeCells, Value.cells, Array.getElem?_map, Array.getElem?_range, Array.getElem?_replicate]
  by_cases hk : k < m <;> simp [hk, Nat.mod_one]
theorem refFull (s : List UInt8) (hs : s.length ≤ 128) (w : World) : Calls Try.prog 35 #[.string ⟨s.toArray⟩] w (Ret (.string ⟨(full s).toArray⟩) w) := by
  obtain ⟨m, hm⟩ : ∃ m, 128 - s.length = m := ⟨_, rfl⟩
  have hmk := run_makeB m (by omega) w
  have hw : IntKind.i64.wrap (128 - (s.length : Int)) = (m : Int) := by rw [show (128 : Int) - (s.length : Int) = (m : Int) by omega]; exact IntWalk.i64_in _ ⟨by omega, by omega⟩
  have hB : Bytes (w.alloc (.cells (Array.replicate m (.int .u8 0)) 5)) (.slice (some ⟨w.heap.size, 0, none⟩) m m) (List.replicate m 0) := by
    have h := has_new w (List.replicate m (.int .u8 0)) 5 1 m (by simp) (by unfold maxLen; omega)
    have e : bc (List.replicate m 0) = List.replicate m (.int .u8 0) := bc_zero m
    show Has _ 1 _ (List.replicate m (0 : UInt8)).length (bc (List.replicate m 0))
    rw [e, List.length_replicate]
    simpa using h
  have hst := run_str (P := Try.prog) _ 24 9 5 Try.underlying24 Try.underlying5 Try.underlying9 _ _ hB
  have hfull : full s = s ++ List.replicate m 0 := by unfold full; rw [hm]
  rw [hfull]
  obtain ⟨z, hz⟩ : ∃ z, List.replicate m (0 : UInt8) = z := ⟨_, rfl⟩
  rw [hz] at hst ⊢
  have hzl : s.length + z.length ≤ 9223372036854775807 := by rw [← hz, List.length_replicate]; omega
  clear hB hfull
  replace hz := Lib.hid hz
  replace hm := Lib.hid hm
  go_enter Try.func35, Try.ntmps35
  go_wp2_with fail
  go_ret
  exact ⟨congrArg (fun b => Ending.returned (.string b)) (ByteArray.mk_append_mk _ _), Upd.alloc _ _ _⟩
/-- The reference's sectors, filled up, are the disk's. -/
structure Same (d r : Dk) : Prop where
  k : d.K = r.K.map full
  l : ∀ s ∈ r.K, s.length ≤ 128
  p : d.P = r.P
  f : d.f = r.f
  dd : d.dd = r.dd
theorem RAt.upd {w w' : World} {S : Nat → Prop} {r : Dk} {kv pv : Value} (h : RAt w r kv pv) (hu : Upd S w w') (h1 : ∀ k, At kv k → ¬ S k) (h2 : ∀ k, At pv k → ¬ S k) : RAt w' r kv pv := ⟨h.k.upd hu h1, h.p.upd hu h2⟩
theorem RAt.non {w w' : World} {r : Dk} {kv pv : Value} (h : RAt w r kv pv) (hu : Upd Non w w') : RAt w' r kv pv := h.upd hu (fun _ _ h => h) fun _ _ h => h
set_option maxHeartbeats 2000000 in
/-- The reference's burn. -/
theorem refBurn (r : Dk) (kv pv : Value) (w : World) (hk : ∃ a n c, kv = .slice a n c) (hp : ∃ a n c, pv = .slice a n c) (h1 : -1 ≤ r.f) (h2 : r.f < 9223372036854775808) :
    Calls Try.prog 49 #[rfv r kv pv] w (Ret (.tuple #[rfv r.burn.1 kv pv, .bool (decide (r.burn.2 = 0))]) w) := by
  obtain ⟨ka, kn, kc, rfl⟩ := hk
  obtain ⟨pa, pn, pcp, rfl⟩ := hp
  obtain ⟨K, P, f, dd⟩ := r
  simp only at h1 h2
  unfold Dk.burn rfv
  obtain ⟨n, hn⟩ : ∃ n, K.length = n := ⟨_, rfl⟩
  by_cases hf : f = 0
  · subst hf
    simp only [if_true, hn]
    clear h1 h2 hn
    go_enter Try.func49, Try.ntmps49
    go_wp2_with fail
    refine bodyPost_ret (v := .tuple #[.agg #[.int .i64 (n : Int), .slice ka kn kc, .slice pa pn pcp, .int .i64 0, .bool true], .bool false]) (by simp [results, Try.results49, go_sem]; try rfl) rfl ⟨rfl, by (repeat (first | (with_reducible exact Upd.refl _ _) | (with_reducible assumption) | (with_reducible refine Upd.then_drew ?_) | (with_reducible refine Upd.then_drewN ?_ _) | (with_reducible refine Upd.then_alloc ?_ _) | (with_reducible refine Upd.then_setCell ?_ (fun h => absurd h (by simp <;> omega)) _) | (with_reducible refine Upd.trans ?_ (Upd.non (by assumption)) (fun _ _ h => h))))⟩
  · by_cases hp : 0 < f
    · simp only [if_neg hf, if_pos hp, hn]
      have hw : IntKind.i64.wrap (f - 1) = f - 1 := IntWalk.i64_in _ ⟨by omega, by omega⟩
      clear hn h1 h2
      go_enter Try.func49, Try.ntmps49
      go_wp2_with fail
      refine bodyPost_ret (v := .tuple #[.agg #[.int .i64 (n : Int), .slice ka kn kc, .slice pa pn pcp, .int .i64 (f - 1), .bool dd], .bool true]) (by simp [results, Try.results49, go_sem]; try rfl) rfl ⟨rfl, by (repeat (first | (with_reducible exact Upd.refl _ _) | (with_reducible assumption) | (with_reducible refine Upd.then_drew ?_) | (with_reducible refine Upd.then_drewN ?_ _) | (with_reducible refine Upd.then_alloc ?_ _) | (with_reducible refine Upd.then_setCell ?_ (fun h => absurd h (by simp <;> omega)) _) | (with_reducible refine Upd.trans ?_ (Upd.non (by assumption)) (fun _ _ h => h))))⟩
    · simp only [if_neg hf, if_neg hp, hn]
      clear hn h1 h2
      go_enter Try.func49, Try.ntmps49
      go_wp2_with fail
      refine bodyPost_ret (v := .tuple #[.agg #[.int .i64 (n : Int), .slice ka kn kc, .slice pa pn pcp, .int .i64 f, .bool dd], .bool true]) (by simp [results, Try.results49, go_sem]; try rfl) rfl ⟨rfl, by (repeat (first | (with_reducible exact Upd.refl _ _) | (with_reducible assumption) | (with_reducible refine Upd.then_drew ?_) | (with_reducible refine Upd.then_drewN ?_ _) | (with_reducible refine Upd.then_alloc ?_ _) | (with_reducible refine Upd.then_setCell ?_ (fun h => absurd h (by simp <;> omega)) _) | (with_reducible refine Upd.trans ?_ (Upd.non (by assumption)) (fun _ _ h => h))))⟩
/-- The reference's Arm. -/
theorem refArm (r : Dk) (kv pv : Value) (w : World) (hk : ∃ a n c, kv = .slice a n c) (hp : ∃ a n c, pv = .slice a n c) (m : Int) :
    Calls Try.prog 26 #[rfv r kv pv, .int .i64 m] w (Ret (.tuple #[rfv (r.arm m).1 kv pv, .int .i64 (r.arm m).2]) w) := by
  obtain ⟨ka, kn, kc, rfl⟩ := hk
  obtain ⟨pa, pn, pcp, rfl⟩ := hp
  obtain ⟨K, P, f, dd⟩ := r
  unfold Dk.arm rfv
  obtain ⟨n, hn⟩ : ∃ n, K.length = n := ⟨_, rfl⟩
  cases dd with
  | true =>
    simp only [if_true, hn]
    clear hn
    go_enter Try.func26, Try.ntmps26
    go_wp2_with fail
    refine bodyPost_ret (v := .tuple #[.agg #[.int .i64 (n : Int), .slice ka kn kc, .slice pa pn pcp, .int .i64 f, .bool true], .int .i64 20]) (by simp [results, Try.results26, go_sem]; try rfl) rfl ⟨rfl, by (repeat (first | (with_reducible exact Upd.refl _ _) | (with_reducible assumption) | (with_reducible refine Upd.then_drew ?_) | (with_reducible refine Upd.then_drewN ?_ _) | (with_reducible refine Upd.then_alloc ?_ _) | (with_reducible refine Upd.then_setCell ?_ (fun h => absurd h (by simp <;> omega)) _) | (with_reducible refine Upd.trans ?_ (Upd.non (by assumption)) (fun _ _ h => h))))⟩
  | false =>
    simp only [Bool.false_eq_true, if_false, hn]
    clear hn
    by_cases hm : -1 < m
    · have hm2 : (m ≤ -1) = False := eq_false (by omega)
      have hmx : Hid (max (-1) m = m) := Lib.hid (by omega)
      go_enter Try.func26, Try.ntmps26
      go_wp2_with fail
      refine bodyPost_ret (v := .tuple #[.agg #[.int .i64 (n : Int), .slice ka kn kc, .slice pa pn pcp, .int .i64 m, .bool false], .int .i64 0]) (by simp [results, Try.results26, go_sem]; try rfl) rfl ⟨by rw [hmx.out], by (repeat (first | (with_reducible exact Upd.refl _ _) | (with_reducible assumption) | (with_reducible refine Upd.then_drew ?_) | (with_reducible refine Upd.then_drewN ?_ _) | (with_reducible refine Upd.then_alloc ?_ _) | (with_reducible refine Upd.then_setCell ?_ (fun h => absurd h (by simp <;> omega)) _) | (with_reducible refine Upd.trans ?_ (Upd.non (by assumption)) (fun _ _ h => h))))⟩
    · have hm2 : (-1 < m) = False := eq_false hm
      have hm3 : m ≤ -1 := by omega
      have hmx : Hid (max (-1) m = -1) := Lib.hid (by omega)
      go_enter Try.func26, Try.ntmps26
      go_wp2_with fail
      refine bodyPost_ret (v := .tuple #[.agg #[.int .i64 (n : Int), .slice ka kn kc, .slice pa pn pcp, .int .i64 (-1), .bool false], .int .i64 0]) (by simp [results, Try.results26, go_sem]; try rfl) rfl ⟨by rw [hmx.out], by (repeat (first | (with_reducible exact Upd.refl _ _) | (with_reducible assumption) | (with_reducible refine Upd.then_drew ?_) | (with_reducible refine Upd.then_drewN ?_ _) | (with_reducible refine Upd.then_alloc ?_ _) | (with_reducible refine Upd.then_setCell ?_ (fun h => absurd h (by simp <;> omega)) _) | (with_reducible refine Upd.trans ?_ (Upd.non (by assumption)) (fun _ _ h => h))))⟩
end Go.Proofs.Ytgdkgnolkepgdaa
