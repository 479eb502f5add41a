/- A disk's small calls. -/
import Derived.Test.YtmnoldikimcafaaMBlA
import Derived.Laws.MakeOwn
import Derived.Deep.WholeRow
namespace Go.Proofs.Ytmnoldikimcafaa
open Go.RowKit Go.Amb
set_option linter.unusedVariables false
set_option linter.unusedSimpArgs false
set_option maxRecDepth 100000
theorem lMade {w : World} {D : Nat} {F : Nat → Prop} {d : Dk} (h : DiskAt w D F d) : Calls Try.prog 31 #[.pointer (some ⟨D, 0, none⟩)] w (Ret (.bool true) w) := by
  obtain ⟨g, ck, pv, hX, hK, hP, h1, h2, h3, hF⟩ := h.ex
  have hn1 := h.ok.n1
  have hn2 := h.ok.n2
  obtain ⟨K, P, f, dd⟩ := d
  simp only at *
  obtain ⟨n, hn⟩ : ∃ n, K.length = n := ⟨_, rfl⟩
  simp only [hn] at *
  obtain ⟨hx', hz'⟩ := cells_of hX
  have x0 : w.cell? ⟨D, 0, none⟩ = some (.slice (some ⟨g, 0, none⟩) n ck) := hx' 0
  have x1 : w.cell? ⟨D, 1, none⟩ = some pv := hx' 1
  have x2 : w.cell? ⟨D, 2, none⟩ = some (.int .i64 f) := hx' 2
  have x3 : w.cell? ⟨D, 3, none⟩ = some (.bool dd) := hx' 3
  have hnp : (0 : Int) < (n : Int) := by omega
  have hnN : 0 < n := by omega
  clear hx' hK hP h1 h2 h3 hF hX h
  go_enter Try.func31, Try.ntmps31
  go_wp2_with fail
  go_ret
  exact ⟨rfl, Upd.refl _ _⟩
theorem lSize {w : World} {D : Nat} {F : Nat → Prop} {d : Dk} (h : DiskAt w D F d) : Calls Try.prog 20 #[.pointer (some ⟨D, 0, none⟩)] w (Ret (.int .i64 (d.K.length : Nat)) w) := by
  have cM := lMade h
  obtain ⟨g, ck, pv, hX, hK, hP, h1, h2, h3, hF⟩ := h.ex
  have hn1 := h.ok.n1
  have hn2 := h.ok.n2
  obtain ⟨K, P, f, dd⟩ := d
  simp only at *
  obtain ⟨n, hn⟩ : ∃ n, K.length = n := ⟨_, rfl⟩
  simp only [hn] at *
  obtain ⟨hx', hz'⟩ := cells_of hX
  have x0 : w.cell? ⟨D, 0, none⟩ = some (.slice (some ⟨g, 0, none⟩) n ck) := hx' 0
  have x1 : w.cell? ⟨D, 1, none⟩ = some pv := hx' 1
  have x2 : w.cell? ⟨D, 2, none⟩ = some (.int .i64 f) := hx' 2
  have x3 : w.cell? ⟨D, 3, none⟩ = some (.bool dd) := hx' 3
  have hnp : (0 : Int) < (n : Int) := by omega
  have hnN : 0 < n := by omega
  clear hx' hK hP h1 h2 h3 hF hX h
  go_enter Try.func20, Try.ntmps20
  go_wp2_with fail
  refine cM.mono ?_
  rintro en w1 ⟨rfl, hu1⟩
  have x0 := hu1.cell x0 fun h => h
  go_wp2_with fail
  go_ret
  exact ⟨rfl, hu1⟩
theorem lMay {w : World} {D : Nat} {F : Nat → Prop} {d : Dk} (h : DiskAt w D F d) : Calls Try.prog 53 #[.pointer (some ⟨D, 0, none⟩)] w (Ret (.int .i64 d.may) w) := by
  have cM := lMade h
  unfold Dk.may
  obtain ⟨g, ck, pv, hX, hK, hP, h1, h2, h3, hF⟩ := h.ex
  have hn1 := h.ok.n1
  have hn2 := h.ok.n2
  obtain ⟨K, P, f, dd⟩ := d
  simp only at *
  obtain ⟨n, hn⟩ : ∃ n, K.length = n := ⟨_, rfl⟩
  simp only [hn] at *
  obtain ⟨hx', hz'⟩ := cells_of hX
  have x0 : w.cell? ⟨D, 0, none⟩ = some (.slice (some ⟨g, 0, none⟩) n ck) := hx' 0
  have x1 : w.cell? ⟨D, 1, none⟩ = some pv := hx' 1
  have x2 : w.cell? ⟨D, 2, none⟩ = some (.int .i64 f) := hx' 2
  have x3 : w.cell? ⟨D, 3, none⟩ = some (.bool dd) := hx' 3
  have hnp : (0 : Int) < (n : Int) := by omega
  have hnN : 0 < n := by omega
  clear hx' hK hP h1 h2 h3 hF hX h
  cases dd with
  | true =>
    go_enter Try.func53, Try.ntmps53
    go_wp2_with fail
    refine cM.mono ?_
    rintro en w1 ⟨rfl, hu1⟩
    have x3 := hu1.cell x3 fun h => h
    go_wp2_with fail
    go_ret
    exact ⟨rfl, hu1⟩
  | false =>
    go_enter Try.func53, Try.ntmps53
    go_wp2_with fail
    refine cM.mono ?_
    rintro en w1 ⟨rfl, hu1⟩
    have x3 := hu1.cell x3 fun h => h
    go_wp2_with fail
    go_ret
    exact ⟨rfl, hu1⟩
theorem lWithin {w : World} {D : Nat} {F : Nat → Prop} {d : Dk} (h : DiskAt w D F d) (i : Int) : Calls Try.prog 51 #[.pointer (some ⟨D, 0, none⟩), .int .i64 i] w (Ret (.int .i64 (d.within i)) w) := by
  have cM := lMay h
  unfold Dk.within
  unfold Dk.may at cM
  obtain ⟨g, ck, pv, hX, hK, hP, h1, h2, h3, hF⟩ := h.ex
  have hn1 := h.ok.n1
  have hn2 := h.ok.n2
  obtain ⟨K, P, f, dd⟩ := d
  simp only at *
  obtain ⟨n, hn⟩ : ∃ n, K.length = n := ⟨_, rfl⟩
  simp only [hn] at *
  obtain ⟨hx', hz'⟩ := cells_of hX
  have x0 : w.cell? ⟨D, 0, none⟩ = some (.slice (some ⟨g, 0, none⟩) n ck) := hx' 0
  have x1 : w.cell? ⟨D, 1, none⟩ = some pv := hx' 1
  have x2 : w.cell? ⟨D, 2, none⟩ = some (.int .i64 f) := hx' 2
  have x3 : w.cell? ⟨D, 3, none⟩ = some (.bool dd) := hx' 3
  have hnp : (0 : Int) < (n : Int) := by omega
  have hnN : 0 < n := by omega
  clear hx' hK hP h1 h2 h3 hF hX h
  cases dd with
  | true =>
    go_enter Try.func51, Try.ntmps51
    go_wp2_with fail
    refine cM.mono ?_
    rintro en w1 ⟨rfl, hu1⟩
    go_wp2_with fail
    go_ret
    exact ⟨rfl, hu1⟩
  | false =>
    by_cases hi : i < 0
    · rw [if_neg (by simp), if_pos (.inl hi)]
      go_enter Try.func51, Try.ntmps51
      go_wp2_with fail
      refine cM.mono ?_
      rintro en w1 ⟨rfl, hu1⟩
      have x0 := hu1.cell x0 fun h => h
      simp only []
      go_wp2_with fail
      go_ret
      exact ⟨rfl, hu1⟩
    · by_cases hn' : (n : Int) ≤ i
      · rw [if_neg (by simp), if_pos (.inr hn')]
        have hi2 : (i < 0) = False := eq_false hi
        clear hi
        go_enter Try.func51, Try.ntmps51
        go_wp2_with fail
        refine cM.mono ?_
        rintro en w1 ⟨rfl, hu1⟩
        have x0 := hu1.cell x0 fun h => h
        simp only []
        go_wp2_with fail
        go_ret
        exact ⟨rfl, hu1⟩
      · rw [if_neg (by simp), if_neg (by omega)]
        have hi2 : (i < 0) = False := eq_false hi
        have hn2' : ((n : Int) ≤ i) = False := eq_false hn'
        clear hi hn'
        go_enter Try.func51, Try.ntmps51
        go_wp2_with fail
        refine cM.mono ?_
        rintro en w1 ⟨rfl, hu1⟩
        have x0 := hu1.cell x0 fun h => h
        simp only []
        go_wp2_with fail
        go_ret
        exact ⟨rfl, hu1⟩
end Go.Proofs.Ytmnoldikimcafaa

namespace Go.Proofs.Ytmnoldikimcafaa
open Go.RowKit Go.Amb
set_option linter.unusedVariables false
set_option linter.unusedSimpArgs false
set_option maxRecDepth 100000
theorem DiskAt.setF {w : World} {D : Nat} {F : Nat → Prop} {d : Dk} (h : DiskAt w D F d) (f : Int) (h1 : -1 ≤ f) (h2 : f < 9223372036854775808) : DiskAt (w.setCell ⟨D, 2, none⟩ (.int .i64 f)) D F { d with f := f } := by
  obtain ⟨g, ck, pv, hX, hK, hP, e1, e2, e3, hF⟩ := h.ex
  have hu : Upd (fun k => k = D) w (w.setCell ⟨D, 2, none⟩ (.int .i64 f)) := Upd.setCell (S := fun k => k = D) w (a := ⟨D, 2, none⟩) rfl _
  exact ⟨⟨h.ok.n1, h.ok.n2, h.ok.k, h.ok.p, h1, h2⟩, g, ck, pv, heap_setCell_same w D 2 _ _ _ hX, hu.owns hK (fun k hk e => e1 (by subst e; simpa [At, Value.ownBlock] using hk)), hu.owns hP (fun k hk e => e2 (by subst e; exact hk)), e1, e2, e3, hF⟩
theorem DiskAt.setD {w : World} {D : Nat} {F : Nat → Prop} {d : Dk} (h : DiskAt w D F d) (b : Bool) : DiskAt (w.setCell ⟨D, 3, none⟩ (.bool b)) D F { d with dd := b } := by
  obtain ⟨g, ck, pv, hX, hK, hP, e1, e2, e3, hF⟩ := h.ex
  have hu : Upd (fun k => k = D) w (w.setCell ⟨D, 3, none⟩ (.bool b)) := Upd.setCell (S := fun k => k = D) w (a := ⟨D, 3, none⟩) rfl _
  exact ⟨⟨h.ok.n1, h.ok.n2, h.ok.k, h.ok.p, h.ok.f1, h.ok.f2⟩, g, ck, pv, heap_setCell_same w D 3 _ _ _ hX, hu.owns hK (fun k hk e => e1 (by subst e; simpa [At, Value.ownBlock] using hk)), hu.owns hP (fun k hk e => e2 (by subst e; exact hk)), e1, e2, e3, hF⟩
theorem lBurn {w : World} {D : Nat} {F : Nat → Prop} {d : Dk} (h : DiskAt w D F d) : Calls Try.prog 52 #[.pointer (some ⟨D, 0, none⟩)] w (fun en w' => en = .returned (.int .i64 d.burn.2) ∧ DiskAt w' D F d.burn.1 ∧ Upd F w w') := by
  have hD := Lib.hid (h.setD true)
  have hS := Lib.hid (h.setF (d.f - 1))
  have hdF := h.dF
  obtain ⟨g, ck, pv, hX, hK, hP, h1, h2, h3, hF⟩ := h.ex
  have hok1 := h.ok.f1
  have hok2 := h.ok.f2
  have hc := cells_of hX
  have x2 : w.cell? ⟨D, 2, none⟩ = some (.int .i64 d.f) := hc.1 2
  have x3 : w.cell? ⟨D, 3, none⟩ = some (.bool d.dd) := hc.1 3
  have z2 := hc.2 2
  have z3 := hc.2 3
  have hh := Lib.hid h
  unfold Dk.burn
  clear hc hX hK hP h1 h2 h3 hF h
  by_cases hf : d.f = 0
  · rw [if_pos hf]
    rw [hf] at x2
    clear hS hf
    go_enter Try.func52, Try.ntmps52
    go_wp2_with fail
    go_ret
    exact ⟨rfl, hD.out, Upd.setCell w hdF _⟩
  · rw [if_neg hf]
    by_cases hp : 0 < d.f
    · rw [if_pos hp]
      have hw : IntKind.i64.wrap (d.f - 1) = d.f - 1 := IntWalk.i64_in _ ⟨by omega, by omega⟩
      have hS' := Lib.hid (hS.out (by omega) (by omega))
      generalize d.f = f at *
      clear hD hS
      go_enter Try.func52, Try.ntmps52
      go_wp2_with fail
      go_ret
      exact ⟨rfl, hS'.out, Upd.setCell w hdF _⟩
    · rw [if_neg hp]
      clear hD hS
      generalize d.f = f at *
      go_enter Try.func52, Try.ntmps52
      go_wp2_with fail
      go_ret
      exact ⟨rfl, hh.out, Upd.refl _ _⟩
end Go.Proofs.Ytmnoldikimcafaa

namespace Go.Proofs.Ytmnoldikimcafaa
open Go.RowKit Go.Amb
set_option linter.unusedVariables false
set_option linter.unusedSimpArgs false
set_option maxRecDepth 100000
theorem info_sector : (Try.prog.info? 74).map (fun i => (i.zero, i.size, i.bytes)) = some (some (.agg (Array.replicate 128 (.int .u8 0))), 128, 128) := by kernel_rfl
theorem run_make_sectors (m : Nat) (hm : m ≤ 16384) (w : World) :
    (Instr.makeSlice 45 (.int .i64 (m : Int)) (.int .i64 (m : Int))).run Try.prog w = .ok (.slice (some ⟨w.heap.size, 0, none⟩) m m) (w.alloc (.cells (Array.replicate (m * 128) (.int .u8 0)) 74)) := by
  obtain ⟨i, hi, hz0, hsz, hby⟩ := info_parts info_sector
  have hb2 : (i.bytes : Int) * (m : Int) ≤ 281474976710656 := by rw [hby]; omega
  have hr := run_make (P := Try.prog) w 45 74 i _ Try.underlying45 hi hz0 .i64 .i64 (m : Int) (m : Int) (by omega) (by omega) hb2 (by omega)
  rw [hr, hsz]
  simp only [Int.toNat_natCast]
  congr 3
  apply Array.ext_getElem?
  intro k
  simp only [madeCells, Value.cells, Array.getElem?_map, Array.getElem?_range, Array.getElem?_replicate, Array.size_replicate]
  by_cases hk : k < m * 128
  · have : k % 128 < 128 := Nat.mod_lt _ (by omega)
    have h2 : (Array.replicate 128 (Value.int .u8 0))[k % 128]! = .int .u8 0 := by rw [getElem!_pos (Array.replicate 128 (Value.int .u8 0)) (k % 128) (by simpa using this)]; simp
    simp [hk, h2]
  · simp [hk]
def Dk.new (n : Nat) : Dk := ⟨List.replicate n (List.replicate 128 0), [], -1, false⟩
theorem new_rows (n : Nat) : ((Dk.new n).K.map bc).flatten = List.replicate (n * 128) (.int .u8 0) := by
  have h128 : bc (List.replicate 128 0) = List.replicate 128 (.int .u8 0) := by
    unfold bc; rw [List.map_replicate]; rfl
  have hK : (Dk.new n).K = List.replicate n (List.replicate 128 0) := rfl
  rw [hK, List.map_replicate, h128, List.flatten_replicate_replicate]
theorem new_ok {n : Nat} (h1 : 1 ≤ n) (h2 : n ≤ 16384) : (Dk.new n).Ok := by
  refine ⟨by simpa [Dk.new] using h1, by simpa [Dk.new] using h2, ?_, fun p hp => (by cases hp), by simp [Dk.new], by simp [Dk.new]⟩
  intro s hs
  rw [List.eq_of_mem_replicate hs, List.length_replicate]
theorem lNew (n : Nat) (h1 : 1 ≤ n) (h2 : n ≤ 16384) (w : World) : Calls Try.prog 6 #[.int .i64 (n : Int)] w (fun en w' => ∃ D F, en = .returned (.tuple #[.pointer (some ⟨D, 0, none⟩), .int .i64 0]) ∧ DiskAt w' D F (Dk.new n) ∧ Upd Non w w' ∧ ∀ k, F k → w.heap.size ≤ k) := by
  have hmk := run_make_sectors n h2 w
  have hn1 : ((n : Int) < 1) = False := eq_false (by omega)
  have hn2 : ((16384 : Int) < (n : Int)) = False := eq_false (by omega)
  go_enter Try.func6, Try.ntmps6
  go_wp2_with fail
  go_ret2
  have hc : (Array.replicate (n * 128) (Value.int .u8 0)).toList = ((Dk.new n).K.map bc).flatten := by rw [new_rows]; simp
  refine ⟨w.heap.size + 1, fun k => k = w.heap.size + 1 ∨ k = w.heap.size, by simp, ⟨new_ok h1 h2, w.heap.size, n, .slice none 0 0, ?_, ?_, ⟨by simp [Dk.new], .inl ⟨rfl, rfl⟩⟩, by omega, by simp [At, Value.ownBlock], by simp [At, Value.ownBlock], ?_⟩, by (repeat (first | (with_reducible exact Upd.refl _ _) | (with_reducible assumption) | (with_reducible refine Upd.then_drew ?_) | (with_reducible refine Upd.then_drewN ?_ _) | (with_reducible refine Upd.then_alloc ?_ _) | (with_reducible refine Upd.then_setCell ?_ (fun h => absurd h (by simp <;> omega)) _) | (with_reducible refine Upd.trans ?_ (Upd.non (by assumption)) (fun _ _ h => h)))), fun k hk => by omega⟩
  · have := heap_alloc2_new w (.cells (Array.replicate (n * 128) (.int .u8 0)) 74) (.cells #[.slice (some ⟨w.heap.size, 0, none⟩) n n, .slice none 0 0, .int .i64 (-1), .bool false] 48)
    simpa [Dk.new] using this
  · have hx := heap_alloc2_old w (.cells (Array.replicate (n * 128) (.int .u8 0)) 74) (.cells #[.slice (some ⟨w.heap.size, 0, none⟩) n n, .slice none 0 0, .int .i64 (-1), .bool false] 48)
    have hl : (Dk.new n).K.length = n := by simp [Dk.new]
    rw [hl]
    refine ⟨by rw [← hc]; simp, .inr ⟨w.heap.size, n, _, rfl, Nat.zero_le _, hx, Nat.le_refl _, by unfold maxLen; omega, by simp, ?_⟩⟩
    rw [← hc]; simp
  · intro k; simp [At, Value.ownBlock]
theorem lNew_no (n : Int) (h : n < 1 ∨ 16384 < n) (w : World) : Calls Try.prog 6 #[.int .i64 n] w (Ret (.tuple #[.pointer none, .int .i64 2]) w) := by
  by_cases h1 : n < 1
  · clear h
    go_enter Try.func6, Try.ntmps6
    go_wp2_with fail
    go_ret2
    exact ⟨by simp, Upd.refl _ _⟩
  · have h2 : 16384 < n := by omega
    clear h
    go_enter Try.func6, Try.ntmps6
    go_wp2_with fail
    go_ret2
    exact ⟨by simp, Upd.refl _ _⟩
end Go.Proofs.Ytmnoldikimcafaa
