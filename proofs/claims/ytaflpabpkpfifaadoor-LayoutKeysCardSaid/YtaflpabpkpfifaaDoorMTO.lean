/- The walk over ambryref02.first: texts. -/
import Derived.Test.YtaflpabpkpfifaaDoorMTN
namespace Go.Proofs.YtaflpabpkpfifaaDoor
open Go.RowKit Go.Amb
set_option linter.unusedVariables false
attribute [local go_sem ↓] Go.wp_at_zero Go.wp_at_succ

theorem xt_end (s : List UInt8) (t : List UInt8) (i : Nat) : textR t (s.drop s.length) i = none := by
  rw [List.drop_length, textR_nil]
theorem xt_ne {s : List UInt8} {k : Nat} (h : k < s.length) (hb : s[k] ≠ 0) (t : List UInt8) : textR t (s.drop k) k = textR (t ++ [s[k]]) (s.drop (k + 1)) (k + 1) := by
  rw [List.drop_eq_getElem_cons h, textR_ne hb]
theorem xt_0 {s : List UInt8} {k : Nat} (h : k + 1 = s.length) (hb : s[k]'(by omega) = 0) (t : List UInt8) : textR t (s.drop k) k = none := by
  rw [List.drop_eq_getElem_cons (by omega), hb, h, List.drop_length, textR_0]
theorem xt_f {s : List UInt8} {k : Nat} (h : k + 1 < s.length) (hb : s[k]'(by omega) = 0) (hc : s[k + 1] = 255) (t : List UInt8) : textR t (s.drop k) k = textR (t ++ [0]) (s.drop (k + 2)) (k + 2) := by
  rw [List.drop_eq_getElem_cons (by omega), List.drop_eq_getElem_cons h, hb, hc, textR_0f]
theorem xt_1 {s : List UInt8} {k : Nat} (h : k + 1 < s.length) (hb : s[k]'(by omega) = 0) (hc : s[k + 1] = 1) (t : List UInt8) : textR t (s.drop k) k = some (t, k + 2) := by
  rw [List.drop_eq_getElem_cons (by omega), List.drop_eq_getElem_cons h, hb, hc, textR_01]
theorem xt_x {s : List UInt8} {k : Nat} (h : k + 1 < s.length) (hb : s[k]'(by omega) = 0) (h1 : s[k + 1] ≠ 1) (h2 : s[k + 1] ≠ 255) (t : List UInt8) : textR t (s.drop k) k = none := by
  rw [List.drop_eq_getElem_cons (by omega), List.drop_eq_getElem_cons h, hb, textR_0x h1 h2]
def mapV (x : Option (List UInt8 × Nat)) : Value := firstV (x.map fun x => (⟨1, 0, x.1⟩, x.2))

theorem ne_of_is {a b : Int} {v u : Bool} (h : (a == b) = v) (hu : u = !v) : (a != b) = u := by rw [bne, h, hu]

set_option maxRecDepth 100000 in
set_option maxHeartbeats 4000000 in
theorem rFirst_text (s : List UInt8) (w : World) (hs : s.length ≤ 128) (hn0 : 0 < s.length) (h2 : s[0] = 2) : Calls Tryd.prog 63 #[.string ⟨s.toArray⟩] w (Ret (mapV (textR [] (s.drop 1) 1)) w) := by
  have hi := Lib.hid (@info_u8)
  have hsz := size_lt hn0
  have c3 := byte_is hn0 hsz 3 3 rfl false (by rw [h2]; rfl)
  have c4 := byte_is hn0 hsz 4 4 rfl false (by rw [h2]; rfl)
  have c2 := byte_is hn0 hsz 2 2 rfl true (by rw [h2]; rfl)
  have n2 := ne_of_is c2 (u := false) rfl
  replace h2 := Lib.hid h2
  generalize hX : textR [] (s.drop 1) 1 = X
  replace hX := Lib.hid hX
  go_enter Tryd.func63, Tryd.ntmps63
  go_wp2_with fail
  go_loopw [7, 8] (fun tv i wr => ∃ (t : List UInt8) (k : Nat), i = .int .i64 k ∧ 1 ≤ k ∧ k ≤ s.length ∧ t.length ≤ k ∧ Own wr (w.heap.size + 1) 5 tv t ∧ Upd Non w wr ∧ wr.heap[w.heap.size]? = some (.cells #[.int .i64 0, .int .i64 0, .string ⟨#[]⟩] 81 (0, 0)) ∧ w.heap.size + 1 ≤ wr.heap.size ∧ textR t (s.drop k) k = X) (fun _ i _ => s.length - (intOf i).toNat)
  case atStart => exact ⟨[], 1, rfl, by omega, by omega, by simp, World.ownsRow_nil _ _ _ _, (Upd.refl _ _).then_alloc _, heap_alloc_new w _, by simp, hX.out⟩
  case round =>
    obtain ⟨t, k, rfl, hk1, hk, htk, hot, hu, hc2, hz, hc⟩ := hrel
    replace hc2 := Lib.hid hc2
    replace hc := Lib.hid hc
    have hcf := cells_of hc2.out
    have hp0 := hcf.1
    have hp1 := hcf.2
    clear hcf
    have hstr := run_str (P := Tryd.prog) _ 86 9 5 Tryd.underlying86 Tryd.underlying5 Tryd.underlying9 _ _ hot.bytes
    by_cases hkl : k = s.length
    · subst hkl
      have hn := Lib.hid (xt_end s t s.length)
      go_wp2_with fail
      clear hstr
      have h3 := set3 hc2.out (.int .i64 0) (.int .i64 0) (.string ⟨#[]⟩)
      generalize World.setCell (World.setCell (World.setCell wr _ _) _ _) _ _ = w3 at *
      have hq := (cells_of h3.1).1
      have hq0 : w3.cell? ⟨w.heap.size, 0, none⟩ = some (.int .i64 0) := hq 0
      have hq1 : w3.cell? ⟨w.heap.size, 1, none⟩ = some (.int .i64 0) := hq 1
      have hq2 : w3.cell? ⟨w.heap.size, 2, none⟩ = some (.string ⟨#[]⟩) := hq 2
      clear hq
      have hu3 : Upd Non w w3 := hu.trans h3.2 fun j hj h => by subst h; omega
      clear h3
      refine bodyPost_ret (by simp [results, Tryd.results63, go_sem, hq0, hq1, hq2]; try rfl) rfl ?_
      exact ⟨by rw [show X = none from hn.out ▸ hc.out.symm ▸ rfl]; rfl, hu3⟩
    · have hlt : k < s.length := by omega
      have hlt' : (k : Int) < (s.length : Int) := by omega
      have hsz1 := size_lt hlt
      by_cases h0 : s[k] = 0
      · have b0 := byte_is hlt hsz1 0 0 rfl true (by simp [h0])
        by_cases hk1 : k + 1 = s.length
        · have hn := Lib.hid (xt_0 hk1 h0 t)
          have he2 : ((k : Int) + 1 == (s.length : Int)) = true := by simp only [beq_iff_eq]; omega
          replace h0 := Lib.hid h0
          replace hk1 := Lib.hid hk1
          go_wp2_with fail
          clear hstr
          have h3 := set3 hc2.out (.int .i64 0) (.int .i64 0) (.string ⟨#[]⟩)
          generalize World.setCell (World.setCell (World.setCell wr _ _) _ _) _ _ = w3 at *
          have hq := (cells_of h3.1).1
          have hq0 : w3.cell? ⟨w.heap.size, 0, none⟩ = some (.int .i64 0) := hq 0
          have hq1 : w3.cell? ⟨w.heap.size, 1, none⟩ = some (.int .i64 0) := hq 1
          have hq2 : w3.cell? ⟨w.heap.size, 2, none⟩ = some (.string ⟨#[]⟩) := hq 2
          clear hq
          have hu3 : Upd Non w w3 := hu.trans h3.2 fun j hj h => by subst h; omega
          clear h3
          refine bodyPost_ret (by simp [results, Tryd.results63, go_sem, hq0, hq1, hq2]; try rfl) rfl ?_
          exact ⟨by rw [show X = none from hn.out ▸ hc.out.symm ▸ rfl]; rfl, hu3⟩
        · have hlt1 : k + 1 < s.length := by omega
          have he2 : ((k : Int) + 1 == (s.length : Int)) = false := by simp only [beq_eq_false_iff_ne, ne_eq]; omega
          have hsz1 := size_lt hlt1
          clear hk1
          by_cases h1 : s[k + 1] = 1
          · have c1 := byte_is hlt1 hsz1 1 1 rfl true (by simp [h1])
            have n1 := ne_of_is c1 (u := false) rfl
            have c255 := byte_is hlt1 hsz1 255 255 rfl false (by rw [h1]; rfl)
            have n255 := ne_of_is c255 (u := true) rfl
            have hn := Lib.hid (xt_1 hlt1 h0 h1 t)
            replace h0 := Lib.hid h0
            replace h1 := Lib.hid h1
            go_wp2_with fail
            have h3 := set3 hc2.out (.int .i64 1) (.int .i64 0) (.string ⟨t.toArray⟩)
            generalize World.setCell (World.setCell (World.setCell wr _ _) _ _) _ _ = w3 at *
            have hq := (cells_of h3.1).1
            have hq0 : w3.cell? ⟨w.heap.size, 0, none⟩ = some (.int .i64 1) := hq 0
            have hq1 : w3.cell? ⟨w.heap.size, 1, none⟩ = some (.int .i64 0) := hq 1
            have hq2 : w3.cell? ⟨w.heap.size, 2, none⟩ = some (.string ⟨t.toArray⟩) := hq 2
            clear hq
            have hu3 : Upd Non w w3 := hu.trans h3.2 fun j hj h => by subst h; omega
            clear h3
            refine bodyPost_ret (by simp [results, Tryd.results63, go_sem, hq0, hq1, hq2]; try rfl) rfl ?_
            exact ⟨by rw [show X = some (t, k + 2) from hn.out ▸ hc.out.symm ▸ rfl]; rfl, hu3⟩
          · have c1 := byte_is hlt1 hsz1 1 1 rfl false (by simp [h1])
            have n1 := ne_of_is c1 (u := true) rfl
            by_cases h255 : s[k + 1] = 255
            · have c255 := byte_is hlt1 hsz1 255 255 rfl true (by simp [h255])
              have n255 := ne_of_is c255 (u := false) rfl
              have hn := Lib.hid (xt_f hlt1 h0 h255 t)
              replace h0 := Lib.hid h0
              replace h1 := Lib.hid h1
              replace h255 := Lib.hid h255
              clear hstr
              go_wp2_with (at_builtin; go_must (refine wpList_app1n rfl _ _ 86 rfl (w.heap.size + 1) 5 (.int .u8 0) 1 1 Tryd.underlying86 hi.out rfl _ _ _ rfl hot [.int .u8 0] wr.heap.size rfl rfl rfl (one_cell _ _) (by unfold maxLen; omega) (by omega) hz ?_))
              intro v3 w3 ho3 hu3 hf3
              have ho3 : Own w3 (w.heap.size + 1) 5 v3 (t ++ [0]) := own_snoc ho3 rfl
              have hU3 : Upd Non w w3 := hu.trans hu3 fun j hj h => absurd (own_ge hot h) (by omega)
              have hc3 := hu3.heap hc2.out fun h => absurd (own_ge hot h) (by omega)
              have hz3 := hu3.size
              go_wp2_with fail
              go_roundw
              case rel => exact ⟨_, k + 2, by go_num, by omega, by omega, by simp; omega, ho3, hU3, hc3, by omega, by rw [← hn.out]; exact hc.out⟩
              case measure => simp [intOf]; omega
            · have c255 := byte_is hlt1 hsz1 255 255 rfl false (by simp [h255])
              have n255 := ne_of_is c255 (u := true) rfl
              have hn := Lib.hid (xt_x hlt1 h0 h1 h255 t)
              replace h0 := Lib.hid h0
              replace h1 := Lib.hid h1
              replace h255 := Lib.hid h255
              go_wp2_with fail
              clear hstr
              have h3 := set3 hc2.out (.int .i64 0) (.int .i64 0) (.string ⟨#[]⟩)
              generalize World.setCell (World.setCell (World.setCell wr _ _) _ _) _ _ = w3 at *
              have hq := (cells_of h3.1).1
              have hq0 : w3.cell? ⟨w.heap.size, 0, none⟩ = some (.int .i64 0) := hq 0
              have hq1 : w3.cell? ⟨w.heap.size, 1, none⟩ = some (.int .i64 0) := hq 1
              have hq2 : w3.cell? ⟨w.heap.size, 2, none⟩ = some (.string ⟨#[]⟩) := hq 2
              clear hq
              have hu3 : Upd Non w w3 := hu.trans h3.2 fun j hj h => by subst h; omega
              clear h3
              refine bodyPost_ret (by simp [results, Tryd.results63, go_sem, hq0, hq1, hq2]; try rfl) rfl ?_
              exact ⟨by rw [show X = none from hn.out ▸ hc.out.symm ▸ rfl]; rfl, hu3⟩
      · have b0 := byte_is hlt hsz1 0 0 rfl false (by simp [h0])
        have hn := Lib.hid (xt_ne hlt h0 t)
        replace h0 := Lib.hid h0
        clear hstr
        go_wp2_with (at_builtin; go_must (refine wpList_app1n rfl _ _ 86 rfl (w.heap.size + 1) 5 (.int .u8 0) 1 1 Tryd.underlying86 hi.out rfl _ _ _ rfl hot [.int .u8 (s[k].toNat : Int)] wr.heap.size rfl rfl rfl (one_cell _ _) (by unfold maxLen; omega) (by omega) hz ?_))
        intro v3 w3 ho3 hu3 hf3
        have ho3 : Own w3 (w.heap.size + 1) 5 v3 (t ++ [s[k]]) := own_snoc ho3 rfl
        have hU3 : Upd Non w w3 := hu.trans hu3 fun j hj h => absurd (own_ge hot h) (by omega)
        have hc3 := hu3.heap hc2.out fun h => absurd (own_ge hot h) (by omega)
        have hz3 := hu3.size
        go_wp2_with fail
        go_roundw
        case rel => exact ⟨_, k + 1, by go_num, by omega, by omega, by simp; omega, ho3, hU3, hc3, by omega, by rw [← hn.out]; exact hc.out⟩
        case measure => simp [intOf]; omega
end Go.Proofs.YtaflpabpkpfifaaDoor
