/- Flush, Crash. -/
import Derived.Test.YtfjcjppfihafgaaMBlK
namespace Go.Proofs.Ytfjcjppfihafgaa
open Go.RowKit Go.Amb Go.Shelf
set_option linter.unusedVariables false
set_option linter.unusedSimpArgs false
set_option maxRecDepth 100000
theorem has_upd0 {S : Nat → Prop} {w w' : World} {size n : Nat} {v : Value} {xs : List Value} (h : Has w size v n xs) (hu : Upd S w w') (hn : 0 < n → ∀ k, At v k → ¬ S k) : Has w' size v n xs := by
  by_cases h0 : n = 0
  · obtain ⟨hl, a, c, hv, h1, h2, -⟩ := h
    exact ⟨hl, a, c, hv, h1, h2, .inl h0⟩
  · exact h.upd hu (hn (by omega))
theorem lCrash {w : World} {D : Nat} {F : Nat → Prop} {d : Dk} (h : DiskAt w D F d) (hn : d.P.length ≤ 1000000) (v : Value) (l : List Int) (hB : Ints w v l) (hv : 0 < l.length → ∀ k, At v k → ¬ F k) :
    Calls Try.prog 39 #[.pointer (some ⟨D, 0, none⟩), v] w (Stepped w D F (d.crash l) (.int .i64 0)) := by
  have cM := Lib.hid (fun w' (hu : Upd Non w w') => lMade (h.non hu))
  have hlt := h.lt
  have hh := Lib.hid h
  have hvs : ∃ a n c, v = .slice a n c := by obtain ⟨_, a, c, rfl, -⟩ := hB; exact ⟨_, _, _, rfl⟩
  obtain ⟨va, vn, vc, rfl⟩ := hvs
  replace hB := Lib.hid hB
  replace hv := Lib.hid hv
  clear h
  go_enter Try.func39, Try.ntmps39
  go_wp2_with fail
  refine (cM.out _ (Upd.alloc Non w _)).mono ?_
  rintro en w1 ⟨rfl, hu1⟩
  have hU1 := (Upd.alloc Non w (.cells #[.slice va vn vc] 23)).trans hu1 fun _ _ h => h
  have hbx : w1.cell? ⟨w.heap.size, 0, none⟩ = some (.slice va vn vc) := (cells_of (hu1.heap (heap_alloc_new w _) fun h => h)).1 0
  have hD1 := hh.out.non hU1
  have hsz := hU1.size
  clear hu1
  simp only []
  go_wp2_with fail
  refine (lKeepS hD1 hn (fun k => decide ((k : Int) ∈ l)) w.heap.size (fun k w' _ hu => lPick _ l _ w' w.heap.size (hu.cell hbx (fun hF => by have := hlt _ hF; simp at this)) (has_upd0 (hB.out.non hU1) hu hv.out))).mono ?_
  rintro en w2 ⟨rfl, F2, hD2, hu2, hf2⟩
  have hU2 : Upd F w w2 := hU1.non.trans hu2 fun _ _ h => h
  have hD3 := (hD2.setF (-1) (by omega) (by omega)).setD false
  have hDF : F D := hh.out.dF
  have hDF2 := hD2.dF
  obtain ⟨g, ck, pv, hX, -⟩ := hD2.ex
  have x2 : w2.cell? ⟨D, 2, none⟩ = some (.int .i64 _) := (cells_of hX).1 2
  have z2 := (cells_of hX).2 2
  have x3 : w2.cell? ⟨D, 3, none⟩ = some (.bool _) := (cells_of hX).1 3
  have z3 := (cells_of hX).2 3
  replace hD3 := Lib.hid hD3
  clear hX hD2
  simp only []
  go_wp2_with fail
  go_ret
  exact ⟨rfl, F2, hD3.out, (hU2.then_setCell (p := ⟨D, 2, none⟩) (fun _ => hDF) _).then_setCell (p := ⟨D, 3, none⟩) (fun _ => hDF) _, fun k hk => (hf2 k hk).imp id fun h => by omega⟩
end Go.Proofs.Ytfjcjppfihafgaa
