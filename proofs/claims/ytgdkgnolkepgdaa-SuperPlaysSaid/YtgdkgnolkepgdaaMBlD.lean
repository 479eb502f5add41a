/- A disk's header is written: burn, Arm; a new disk. -/
import Derived.Test.YtgdkgnolkepgdaaMBlC
import Derived.Laws.MakeOwn
namespace Go.Proofs.Ytgdkgnolkepgdaa
open Go.RowKit Go.Amb
set_option linter.unusedVariables false
set_option linter.unusedSimpArgs false
set_option maxRecDepth 100000
theorem DiskAt.setF {w : World} {D : Nat} {F : Nat → Prop} {d : Dk} (h : DiskAt w D F d) (f : Int) (h1 : -1 ≤ f) (h2 : f < 9223372036854775808) : DiskAt (w.setCell ⟨D, 2, none⟩ (.int .i64 f)) D F { d with f := f } := by
  obtain ⟨g, ck, pv, hX, hK, hP, e1, e2, e3, hF⟩ := h.ex
  have hu : Upd (fun k => k = D) w (w.setCell ⟨D, 2, none⟩ (.int .i64 f)) := Upd.setCell (S := fun k => k = D) w (a := ⟨D, 2, none⟩) rfl _
  exact ⟨⟨h.ok.n1, h.ok.n2, h.ok.k, h.ok.p, h1, h2⟩, g, ck, pv, heap_setCell_same w D 2 _ _ _ hX, hu.owns hK (fun k hk e => e1 (by subst e; simpa [At, Value.ownBlock] using hk)), hu.owns hP (fun k hk e => e2 (by subst e; exact hk)), e1, e2, e3, hF⟩
theorem DiskAt.setD {w : World} {D : Nat} {F : Nat → Prop} {d : Dk} (h : DiskAt w D F d) (b : Bool) : DiskAt (w.setCell ⟨D, 3, none⟩ (.bool b)) D F { d with dd := b } := by
  obtain ⟨g, ck, pv, hX, hK, hP, e1, e2, e3, hF⟩ := h.ex
  have hu : Upd (fun k => k = D) w (w.setCell ⟨D, 3, none⟩ (.bool b)) := Upd.setCell (S := fun k => k = D) w (a := ⟨D, 3, none⟩) rfl _
  exact ⟨⟨h.ok.n1, h.ok.n2, h.ok.k, h.ok.p, h.ok.f1, h.ok.f2⟩, g, ck, pv, heap_setCell_same w D 3 _ _ _ hX, hu.owns hK (fun k hk e => e1 (by subst e; simpa [At, Value.ownBlock] using hk)), hu.owns hP (fun k hk e => e2 (by subst e; exact hk)), e1, e2, e3, hF⟩
theorem lBurn {w : World} {D : Nat} {F : Nat → Prop} {d : Dk} (h : DiskAt w D F d) : Calls Try.prog 51 #[.pointer (some ⟨D, 0, none⟩)] w (fun en w' => en = .returned (.int .i64 d.burn.2) ∧ DiskAt w' D F d.burn.1 ∧ Upd F w w') := by
  have hD := Lib.hid (h.setD true)
  have hS := Lib.hid (h.setF (d.f - 1))
  have hdF := h.dF
  obtain ⟨g, ck, pv, hX, hK, hP, h1, h2, h3, hF⟩ := h.ex
  have hok1 := h.ok.f1
  have hok2 := h.ok.f2
  have hc := cells_of hX
  have x2 : w.cell? ⟨D, 2, none⟩ = some (.int .i64 d.f) := hc.1 2
  have x3 : w.cell? ⟨D, 3, none⟩ = some (.bool d.dd) := hc.1 3
  have z2 := hc.2 2
  have z3 := hc.2 3
  have hh := Lib.hid h
  unfold Dk.burn
  clear hc hX hK hP h1 h2 h3 hF h
  by_cases hf : d.f = 0
  · rw [if_pos hf]
    rw [hf] at x2
    clear hS hf
    go_enter Try.func51, Try.ntmps51
    go_wp2_with fail
    go_ret
    exact ⟨rfl, hD.out, Upd.setCell w hdF _⟩
  · rw [if_neg hf]
    by_cases hp : 0 < d.f
    · rw [if_pos hp]
      have hw : IntKind.i64.wrap (d.f - 1) = d.f - 1 := IntWalk.i64_in _ ⟨by omega, by omega⟩
      have hS' := Lib.hid (hS.out (by omega) (by omega))
      generalize d.f = f at *
      clear hD hS
      go_enter Try.func51, Try.ntmps51
      go_wp2_with fail
      go_ret
      exact ⟨rfl, hS'.out, Upd.setCell w hdF _⟩
    · rw [if_neg hp]
      clear hD hS
      generalize d.f = f at *
      go_enter Try.func51, Try.ntmps51
      go_wp2_with fail
      go_ret
      exact ⟨rfl, hh.out, Upd.refl _ _⟩
theorem lArm {w : World} {D : Nat} {F : Nat → Prop} {d : Dk} (h : DiskAt w D F d) (n : Int) (hn : n < 9223372036854775808) : Calls Try.prog 18 #[.pointer (some ⟨D, 0, none⟩), .int .i64 n] w (Stepped w D F (d.arm n).1 (.int .i64 (d.arm n).2)) := by
  have cM := lMay h
  unfold Dk.may at cM
  unfold Dk.arm
  have hdF := h.dF
  have hl := h.lt _ hdF
  obtain ⟨g, ck, pv, hX, -⟩ := h.ex
  have hc := cells_of hX
  have x2 : w.cell? ⟨D, 2, none⟩ = some (.int .i64 d.f) := hc.1 2
  have z2 := hc.2 2
  have hh := Lib.hid h
  clear hc hX h
  cases hd : d.dd with
  | true =>
    rw [hd] at cM
    go_enter Try.func18, Try.ntmps18
    go_wp2_with fail
    refine cM.mono ?_
    rintro en w1 ⟨rfl, hu1⟩
    simp only []
    go_wp2_with fail
    go_ret
    exact ⟨rfl, F, hh.out.non hu1, hu1.non, fun k hk => .inl hk⟩
  | false =>
    rw [hd] at cM
    go_enter Try.func18, Try.ntmps18
    go_wp2_with fail
    refine cM.mono ?_
    rintro en w1 ⟨rfl, hu1⟩
    have hh1 := Lib.hid (hh.out.non hu1)
    have x2 := hu1.cell x2 fun h => h
    have z2 : w1.frozen? ⟨D, 2, none⟩ = false := (World.frozen?_of_block (hu1.block D hl (fun h => h))).trans z2
    simp only []
    by_cases hn1 : -1 < n
    · have hn2 : (n ≤ -1) = False := eq_false (by omega)
      have hS := Lib.hid (hh1.out.setF n (by omega) hn)
      have hmx : Hid (max (-1) n = n) := Lib.hid (by omega)
      go_wp2_with fail
      go_ret
      exact ⟨rfl, F, by have := hS.out; rw [hmx.out]; rw [hd] at this; exact this, (hu1.non).then_setCell (p := ⟨D, 2, none⟩) (fun _ => hdF) _, fun k hk => .inl hk⟩
    · have hn2 : (-1 < n) = False := eq_false hn1
      have hn3 : n ≤ -1 := by omega
      have hS := Lib.hid (hh1.out.setF (-1) (by omega) (by omega))
      have hmx : Hid (max (-1) n = -1) := Lib.hid (by omega)
      go_wp2_with fail
      go_ret
      exact ⟨rfl, F, by have := hS.out; rw [hmx.out]; rw [hd] at this; exact this, (hu1.non).then_setCell (p := ⟨D, 2, none⟩) (fun _ => hdF) _, fun k hk => .inl hk⟩
end Go.Proofs.Ytgdkgnolkepgdaa
