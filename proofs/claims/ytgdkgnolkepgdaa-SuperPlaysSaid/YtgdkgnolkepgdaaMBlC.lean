/- A disk's small calls. -/
import Derived.Test.YtgdkgnolkepgdaaMBlB
namespace Go.Proofs.Ytgdkgnolkepgdaa
open Go.RowKit Go.Amb
set_option linter.unusedVariables false
set_option linter.unusedSimpArgs false
set_option maxRecDepth 100000
theorem lMade {w : World} {D : Nat} {F : Nat → Prop} {d : Dk} (h : DiskAt w D F d) : Calls Try.prog 44 #[.pointer (some ⟨D, 0, none⟩)] w (Ret (.bool true) w) := by
  obtain ⟨g, ck, pv, hX, hK, hP, h1, h2, h3, hF⟩ := h.ex
  have hn1 := h.ok.n1
  have hn2 := h.ok.n2
  obtain ⟨K, P, f, dd⟩ := d
  simp only at *
  obtain ⟨n, hn⟩ : ∃ n, K.length = n := ⟨_, rfl⟩
  simp only [hn] at *
  obtain ⟨hx', hz'⟩ := cells_of hX
  have x0 : w.cell? ⟨D, 0, none⟩ = some (.slice (some ⟨g, 0, none⟩) n ck) := hx' 0
  have x1 : w.cell? ⟨D, 1, none⟩ = some pv := hx' 1
  have x2 : w.cell? ⟨D, 2, none⟩ = some (.int .i64 f) := hx' 2
  have x3 : w.cell? ⟨D, 3, none⟩ = some (.bool dd) := hx' 3
  have hnp : (0 : Int) < (n : Int) := by omega
  have hnN : 0 < n := by omega
  clear hx' hK hP h1 h2 h3 hF hX h
  go_enter Try.func44, Try.ntmps44
  go_wp2_with fail
  go_ret
  exact ⟨rfl, Upd.refl _ _⟩
theorem lPending {w : World} {D : Nat} {F : Nat → Prop} {d : Dk} (h : DiskAt w D F d) : Calls Try.prog 29 #[.pointer (some ⟨D, 0, none⟩)] w (Ret (.int .i64 (d.P.length : Nat)) w) := by
  have cM := lMade h
  obtain ⟨g, ck, pv, hX, hK, hP, h1, h2, h3, hF⟩ := h.ex
  obtain ⟨_, a, c, rfl, -⟩ := has_of_owns hP
  have x1 : w.cell? ⟨D, 1, none⟩ = some (.slice a d.P.length c) := (cells_of hX).1 1
  generalize d.P.length = n at *
  clear hX hK hP hF h
  go_enter Try.func29, Try.ntmps29
  go_wp2_with fail
  refine cM.mono ?_
  rintro en w1 ⟨rfl, hu1⟩
  have x1 := hu1.cell x1 fun h => h
  go_wp2_with fail
  go_ret
  exact ⟨rfl, hu1⟩
theorem lDead {w : World} {D : Nat} {F : Nat → Prop} {d : Dk} (h : DiskAt w D F d) : Calls Try.prog 30 #[.pointer (some ⟨D, 0, none⟩)] w (Ret (.bool d.dd) w) := by
  have cM := lMade h
  obtain ⟨g, ck, pv, hX, hK, hP, h1, h2, h3, hF⟩ := h.ex
  have hn1 := h.ok.n1
  have hn2 := h.ok.n2
  obtain ⟨K, P, f, dd⟩ := d
  simp only at *
  obtain ⟨n, hn⟩ : ∃ n, K.length = n := ⟨_, rfl⟩
  simp only [hn] at *
  obtain ⟨hx', hz'⟩ := cells_of hX
  have x0 : w.cell? ⟨D, 0, none⟩ = some (.slice (some ⟨g, 0, none⟩) n ck) := hx' 0
  have x1 : w.cell? ⟨D, 1, none⟩ = some pv := hx' 1
  have x2 : w.cell? ⟨D, 2, none⟩ = some (.int .i64 f) := hx' 2
  have x3 : w.cell? ⟨D, 3, none⟩ = some (.bool dd) := hx' 3
  have hnp : (0 : Int) < (n : Int) := by omega
  have hnN : 0 < n := by omega
  clear hx' hK hP h1 h2 h3 hF hX h
  go_enter Try.func30, Try.ntmps30
  go_wp2_with fail
  refine cM.mono ?_
  rintro en w1 ⟨rfl, hu1⟩
  have x3 := hu1.cell x3 fun h => h
  go_wp2_with fail
  go_ret
  exact ⟨rfl, hu1⟩
theorem lMay {w : World} {D : Nat} {F : Nat → Prop} {d : Dk} (h : DiskAt w D F d) : Calls Try.prog 42 #[.pointer (some ⟨D, 0, none⟩)] w (Ret (.int .i64 d.may) w) := by
  have cM := lMade h
  unfold Dk.may
  obtain ⟨g, ck, pv, hX, hK, hP, h1, h2, h3, hF⟩ := h.ex
  have hn1 := h.ok.n1
  have hn2 := h.ok.n2
  obtain ⟨K, P, f, dd⟩ := d
  simp only at *
  obtain ⟨n, hn⟩ : ∃ n, K.length = n := ⟨_, rfl⟩
  simp only [hn] at *
  obtain ⟨hx', hz'⟩ := cells_of hX
  have x0 : w.cell? ⟨D, 0, none⟩ = some (.slice (some ⟨g, 0, none⟩) n ck) := hx' 0
  have x1 : w.cell? ⟨D, 1, none⟩ = some pv := hx' 1
  have x2 : w.cell? ⟨D, 2, none⟩ = some (.int .i64 f) := hx' 2
  have x3 : w.cell? ⟨D, 3, none⟩ = some (.bool dd) := hx' 3
  have hnp : (0 : Int) < (n : Int) := by omega
  have hnN : 0 < n := by omega
  clear hx' hK hP h1 h2 h3 hF hX h
  cases dd with
  | true =>
    go_enter Try.func42, Try.ntmps42
    go_wp2_with fail
    refine cM.mono ?_
    rintro en w1 ⟨rfl, hu1⟩
    have x3 := hu1.cell x3 fun h => h
    go_wp2_with fail
    go_ret
    exact ⟨rfl, hu1⟩
  | false =>
    go_enter Try.func42, Try.ntmps42
    go_wp2_with fail
    refine cM.mono ?_
    rintro en w1 ⟨rfl, hu1⟩
    have x3 := hu1.cell x3 fun h => h
    go_wp2_with fail
    go_ret
    exact ⟨rfl, hu1⟩
theorem lWithin {w : World} {D : Nat} {F : Nat → Prop} {d : Dk} (h : DiskAt w D F d) (i : Int) : Calls Try.prog 50 #[.pointer (some ⟨D, 0, none⟩), .int .i64 i] w (Ret (.int .i64 (d.within i)) w) := by
  have cM := lMay h
  unfold Dk.within
  unfold Dk.may at cM
  obtain ⟨g, ck, pv, hX, hK, hP, h1, h2, h3, hF⟩ := h.ex
  have hn1 := h.ok.n1
  have hn2 := h.ok.n2
  obtain ⟨K, P, f, dd⟩ := d
  simp only at *
  obtain ⟨n, hn⟩ : ∃ n, K.length = n := ⟨_, rfl⟩
  simp only [hn] at *
  obtain ⟨hx', hz'⟩ := cells_of hX
  have x0 : w.cell? ⟨D, 0, none⟩ = some (.slice (some ⟨g, 0, none⟩) n ck) := hx' 0
  have x1 : w.cell? ⟨D, 1, none⟩ = some pv := hx' 1
  have x2 : w.cell? ⟨D, 2, none⟩ = some (.int .i64 f) := hx' 2
  have x3 : w.cell? ⟨D, 3, none⟩ = some (.bool dd) := hx' 3
  have hnp : (0 : Int) < (n : Int) := by omega
  have hnN : 0 < n := by omega
  clear hx' hK hP h1 h2 h3 hF hX h
  cases dd with
  | true =>
    go_enter Try.func50, Try.ntmps50
    go_wp2_with fail
    refine cM.mono ?_
    rintro en w1 ⟨rfl, hu1⟩
    go_wp2_with fail
    go_ret
    exact ⟨rfl, hu1⟩
  | false =>
    by_cases hi : i < 0
    · rw [if_neg (by simp), if_pos (.inl hi)]
      go_enter Try.func50, Try.ntmps50
      go_wp2_with fail
      refine cM.mono ?_
      rintro en w1 ⟨rfl, hu1⟩
      have x0 := hu1.cell x0 fun h => h
      simp only []
      go_wp2_with fail
      go_ret
      exact ⟨rfl, hu1⟩
    · by_cases hn' : (n : Int) ≤ i
      · rw [if_neg (by simp), if_pos (.inr hn')]
        have hi2 : (i < 0) = False := eq_false hi
        clear hi
        go_enter Try.func50, Try.ntmps50
        go_wp2_with fail
        refine cM.mono ?_
        rintro en w1 ⟨rfl, hu1⟩
        have x0 := hu1.cell x0 fun h => h
        simp only []
        go_wp2_with fail
        go_ret
        exact ⟨rfl, hu1⟩
      · rw [if_neg (by simp), if_neg (by omega)]
        have hi2 : (i < 0) = False := eq_false hi
        have hn2' : ((n : Int) ≤ i) = False := eq_false hn'
        clear hi hn'
        go_enter Try.func50, Try.ntmps50
        go_wp2_with fail
        refine cM.mono ?_
        rintro en w1 ⟨rfl, hu1⟩
        have x0 := hu1.cell x0 fun h => h
        simp only []
        go_wp2_with fail
        go_ret
        exact ⟨rfl, hu1⟩
end Go.Proofs.Ytgdkgnolkepgdaa
