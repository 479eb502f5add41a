/- The walks over package tuple: a part's bytes, a key's. -/
import Derived.Test.YtaflpabpkpfifaaDoorMTA
namespace Go.Proofs.YtaflpabpkpfifaaDoor
set_option maxRecDepth 100000
open Go.RowKit Go.Amb
set_option linter.unusedVariables false
attribute [local go_sem ↓] Go.wp_at_zero Go.wp_at_succ

theorem numBy_up (n : Int) : numBy n 0 8 = fld (n + 9223372036854775808) 8 := by
  unfold numBy fld
  conv => rhs; rw [← List.map_id (fldTo (n + 9223372036854775808) 8 8)]
  exact List.map_congr_left fun b _ => by simp
theorem byte_not (b : UInt8) : (b ^^^ 255).toNat = 255 - b.toNat := by
  have h : ∀ c : Fin 256, c.val ^^^ 255 = 255 - c.val := by decide +kernel
  have := h ⟨b.toNat, b.toNat_lt⟩
  rw [UInt8.toNat_xor]
  exact this
theorem byteAt_not (U : Int) (i : Nat) (hi : i < 8) : byteAt U i ^^^ 255 = byteAt (18446744073709551615 - U) i := by
  rw [← UInt8.toNat_inj]
  have h1 := byteAt_int U i
  have h2 := byteAt_int (18446744073709551615 - U) i
  have h3 := byte_not (byteAt U i)
  have hD : (0 : Int) < 2 ^ (8 * i) := Int.pow_pos (by decide)
  have hM : (18446744073709551616 : Int) = 2 ^ (8 * i) * (256 * 2 ^ (8 * (7 - i))) := by
    rw [show (256 : Int) = 2 ^ 8 by decide, ← Int.pow_add, ← Int.pow_add, show 8 * i + (8 + 8 * (7 - i)) = 64 by omega]; rfl
  generalize (2 : Int) ^ (8 * (7 - i)) = M at hM
  generalize (2 : Int) ^ (8 * i) = D at *
  have e1 := Int.emod_add_mul_ediv U D
  have r0 := Int.emod_nonneg U (show D ≠ 0 by omega)
  have r1 := Int.emod_lt_of_pos U hD
  have e2 : 18446744073709551615 - U = (D - 1 - U % D) + D * (256 * M - 1 - U / D) := by
    rw [Int.mul_sub, Int.mul_sub, Int.mul_one, ← hM]; omega
  have e3 : (18446744073709551615 - U) / D = 256 * M - 1 - U / D := by
    rw [e2, Int.add_mul_ediv_left _ _ (by omega), Int.ediv_eq_zero_of_lt (by omega) (by omega)]; omega
  rw [e3] at h2
  have hb := (byteAt U i).toNat_lt
  omega
theorem numBy_down (n : Int) : numBy n 255 8 = fld (9223372036854775807 - n) 8 := by
  unfold numBy fld fldTo
  rw [List.map_map]
  refine List.map_congr_left fun t ht => ?_
  have := List.mem_range.1 ht
  show byteAt _ _ ^^^ 255 = _
  rw [byteAt_not _ _ (by omega), show (18446744073709551615 : Int) - (n + 9223372036854775808) = 9223372036854775807 - n by omega]

set_option maxHeartbeats 800000 in
theorem tPut_up (base : Nat) (v : Value) (l s : List UInt8) (n : Int) (w : World) (h0 : -9223372036854775808 ≤ n) (h1 : n ≤ 9223372036854775807)
    (hown : Own w base 5 v l) (hlen : l.length + 16 ≤ 140737488355328) (hb : base ≤ w.heap.size) :
    Calls Tryd.prog 75 #[v, pV ⟨2, n, s⟩] w (Grew base 5 v (l ++ 3 :: fld (n + 9223372036854775808) 8) w) := by
  have hi := Lib.hid (@info_u8)
  replace hown := Lib.hid hown
  go_enter Tryd.func75, Tryd.ntmps75
  go_wp2_with fail
  go_region_held3 (fun w' => w'.cell? ⟨w.heap.size, 1, none⟩ = some (.int .i64 n)) (first | go_keep | exact hc1)
    (first
      | (refine step_app1 rfl _ _ 86 rfl base 5 (.int .u8 0) 1 1 Tryd.underlying86 hi.out rfl v l.length (bc l) rfl (hown.out.alloc _) [.int .u8 3] (w.heap.size + 1) rfl (by simp) rfl (one_cell _ _) (by unfold maxLen; omega) (by omega) (by simp; omega) ?_; intro v1 w1 ho1 hu1 hf1; have hG1 := Grow.left (Upd.alloc Non w _) ⟨hu1, hf1⟩; have hc1 := (cells_of (hu1.heap (heap_alloc_new w _) (fun h => by have := own_lt hown.out h; omega))).1 1; have ho1 : Own w1 base 5 v1 (l ++ [3]) := own_snoc ho1 rfl; have hz1 := hG1.upd.size; replace ho1 := Lib.hid ho1; replace hG1 := Lib.hid hG1; replace hf1 := Lib.hid hf1; clear hu1)
      | (go_at_call 85; refine (tNumber base v1 (l ++ [3]) n 0 w1 h0 h1 ho1.out (by simp only [List.length_append, List.length_singleton]; omega) (by omega)).mono ?_; rintro e w2 ⟨v2, rfl, ho2, hu2, hf2⟩; have hc1 := hu2.cell hc1 (fun h => (hf1.out _ h).elim (fun h => absurd (own_lt hown.out h) (by simp)) (fun h => by simp at h; omega)); replace ho2 := Lib.hid ho2; replace hu2 := Lib.hid hu2; replace hf2 := Lib.hid hf2))
  go_wp2_with fail
  go_ret
  have hG := hG1.out.trans ⟨hu2.out, hf2.out⟩
  exact hG.grew (by rw [← numBy_up]; simpa using ho2.out)

set_option maxHeartbeats 800000 in
theorem tPut_down (base : Nat) (v : Value) (l s : List UInt8) (n : Int) (w : World) (h0 : -9223372036854775808 ≤ n) (h1 : n ≤ 9223372036854775807)
    (hown : Own w base 5 v l) (hlen : l.length + 16 ≤ 140737488355328) (hb : base ≤ w.heap.size) :
    Calls Tryd.prog 75 #[v, pV ⟨3, n, s⟩] w (Grew base 5 v (l ++ 4 :: fld (9223372036854775807 - n) 8) w) := by
  have hi := Lib.hid (@info_u8)
  replace hown := Lib.hid hown
  go_enter Tryd.func75, Tryd.ntmps75
  go_wp2_with fail
  go_region_held3 (fun w' => w'.cell? ⟨w.heap.size, 1, none⟩ = some (.int .i64 n)) (first | go_keep | exact hc1)
    (first
      | (refine step_app1 rfl _ _ 86 rfl base 5 (.int .u8 0) 1 1 Tryd.underlying86 hi.out rfl v l.length (bc l) rfl (hown.out.alloc _) [.int .u8 4] (w.heap.size + 1) rfl (by simp) rfl (one_cell _ _) (by unfold maxLen; omega) (by omega) (by simp; omega) ?_; intro v1 w1 ho1 hu1 hf1; have hG1 := Grow.left (Upd.alloc Non w _) ⟨hu1, hf1⟩; have hc1 := (cells_of (hu1.heap (heap_alloc_new w _) (fun h => by have := own_lt hown.out h; omega))).1 1; have ho1 : Own w1 base 5 v1 (l ++ [4]) := own_snoc ho1 rfl; have hz1 := hG1.upd.size; replace ho1 := Lib.hid ho1; replace hG1 := Lib.hid hG1; replace hf1 := Lib.hid hf1; clear hu1)
      | (go_at_call 85; refine (tNumber base v1 (l ++ [4]) n 255 w1 h0 h1 ho1.out (by simp only [List.length_append, List.length_singleton]; omega) (by omega)).mono ?_; rintro e w2 ⟨v2, rfl, ho2, hu2, hf2⟩; have hc1 := hu2.cell hc1 (fun h => (hf1.out _ h).elim (fun h => absurd (own_lt hown.out h) (by simp)) (fun h => by simp at h; omega)); replace ho2 := Lib.hid ho2; replace hu2 := Lib.hid hu2; replace hf2 := Lib.hid hf2))
  go_wp2_with fail
  go_ret
  have hG := hG1.out.trans ⟨hu2.out, hf2.out⟩
  exact hG.grew (by rw [← numBy_down]; simpa using ho2.out)

set_option maxHeartbeats 800000 in
theorem tPut_text (base : Nat) (v : Value) (l s : List UInt8) (n k : Int) (w : World) (hk2 : (k == 2) = false) (hk3 : (k == 3) = false)
    (hown : Own w base 5 v l) (hlen : l.length + 2 * s.length + 16 ≤ 140737488355328) (hb : base ≤ w.heap.size) :
    Calls Tryd.prog 75 #[v, pV ⟨k, n, s⟩] w (Grew base 5 v (l ++ 2 :: (esc s ++ [0, 1])) w) := by
  have hi := Lib.hid (@info_u8)
  replace hown := Lib.hid hown
  go_enter Tryd.func75, Tryd.ntmps75
  go_wp2_with (at_builtin; go_must (refine wpList_app1n rfl _ _ 86 rfl base 5 (.int .u8 0) 1 1 Tryd.underlying86 hi.out rfl v l.length (bc l) rfl (hown.out.alloc _) [.int .u8 2] (w.heap.size + 1) rfl (by simp) rfl (one_cell _ _) (by unfold maxLen; omega) (by omega) (by simp; omega) ?_))
  intro v1 w1 ho1 hu1 hf1
  have hG1 := Grow.left (Upd.alloc Non w _) (⟨hu1, by simpa using hf1⟩ : Grow v _ v1 w1)
  have hb1 := hu1.heap (heap_alloc_new w _) (fun h => by have := own_lt hown.out h; omega)
  have ho1 : Own w1 base 5 v1 (l ++ [2]) := own_snoc ho1 rfl
  obtain ⟨c1, f1⟩ := cells_of hb1
  replace ho1 := Lib.hid ho1
  replace hG1 := Lib.hid hG1
  replace hf1 := Lib.hid hf1
  replace hb1 := Lib.hid hb1
  clear hu1
  go_wp2_with (refine wpList_tobytes rfl _ 9 86 5 rfl Tryd.underlying9 Tryd.underlying86 Tryd.underlying5 s rfl (by unfold maxLen; omega) ?_)
  intro c w2 hm
  have hcap := hm.cap
  have hmax := hm.max
  have hz2 := hm.size
  unfold maxLen at hmax
  have hg2 := Lib.hid hm.upd
  have hN1 : ∀ b, At v1 b → b < w1.heap.size := fun b hb => own_lt ho1.out hb
  replace hm := Lib.hid hm
  have ho2 := Lib.hid (hg2.out.owns ho1.out fun _ _ h => h)
  have hG2 := Lib.hid (hG1.out.right hg2.out)
  clear ho1 hG1 hb1 hf1 c1 f1
  generalize hN : w1.heap.size = N at *
  have hzw := hG2.out.upd.size
  go_wp2_with fail
  go_loopw [0, 6, 32] (fun u _ i wr => ∃ k : Nat, k ≤ s.length ∧ i = .int .i64 k ∧ Own wr base 5 u (l ++ 2 :: esc (s.take k)) ∧ Grow v w u wr ∧ Upd (fun b => b ≠ N) w2 wr ∧ ∀ b, At u b → b ≠ N) (fun _ _ i _ => s.length - (intOf i).toNat)
  case atStart => exact ⟨0, by omega, rfl, ho2.out, hG2.out, Upd.refl _ _, fun b hb => by have := hN1 b hb; omega⟩
  case round =>
    obtain ⟨j, hj, rfl, ho, hG, hU, hne⟩ := hrel
    have hzr := hU.size
    have hsz := hG.upd.size
    have hll : (l ++ 2 :: esc (s.take j)).length ≤ l.length + 1 + 2 * j := by
      have h1 := esc_length (s.take j)
      have h2 := zeros_le (s.take j)
      have h3 := List.length_take_le j s
      simp only [List.length_append, List.length_cons]; omega
    by_cases hlt : j < s.length
    · have hc := hU.cell (hm.out.cell j hlt) (fun h => h hN)
      rw [hN] at hc
      have ets : s.take (j + 1) = s.take j ++ [s[j]] := by rw [List.take_succ_eq_append_getElem hlt]
      by_cases h0 : s[j] = 0
      · have hb0 : (s[j].toNat : Int) = 0 := by rw [h0]; rfl
        rw [hb0] at hc
        go_wp2_with (at_builtin; go_must (refine wpList_app1n rfl _ _ 86 rfl base 5 (.int .u8 0) 1 1 Tryd.underlying86 hi.out rfl u0 _ _ rfl ho [.int .u8 0] wr.heap.size rfl rfl rfl (one_cell _ _) (by unfold maxLen; omega) (by omega) (by omega) ?_))
        intro v3 w3 ho3 hu3 hf3
        have ho3 : Own w3 base 5 v3 ((l ++ 2 :: esc (s.take j)) ++ [0]) := own_snoc ho3 rfl
        have hz3 := hu3.size
        go_wp2_with (at_builtin; go_must (refine wpList_app1n rfl _ _ 86 rfl base 5 (.int .u8 0) 1 1 Tryd.underlying86 hi.out rfl v3 _ _ rfl ho3 [.int .u8 255] w3.heap.size rfl rfl rfl (one_cell _ _) (by rw [List.length_append]; unfold maxLen; simp only [List.length_singleton]; omega) (by rw [List.length_append]; simp only [List.length_singleton]; omega) (by omega) ?_))
        intro v4 w4 ho4 hu4 hf4
        have ho4 := own_snoc (b := 255) ho4 rfl
        go_wp2_with fail
        go_roundw
        case rel =>
          refine ⟨j + 1, by omega, by go_num, ?_, (hG.trans ⟨hu3, hf3⟩).trans ⟨hu4, hf4⟩, (hU.trans hu3 fun b _ h => hne b h).trans hu4 fun b hb h => ?_, fun b h => ?_⟩
          · rw [ets, esc_snoc, if_pos h0]
            simpa using ho4
          · exact (hf3 b h).elim (hne b) (fun h => by omega)
          · exact (hf4 b h).elim (fun h => (hf3 b h).elim (hne b) (fun h => by omega)) (fun h => by omega)
        case measure => simp [intOf]; omega
      · have hb0 : ((s[j].toNat : Int) == 0) = false := by
          simp only [beq_eq_false_iff_ne, ne_eq]
          intro e
          exact h0 (UInt8.toNat_inj.1 (by simpa using e))
        go_wp2_with (at_builtin; go_must (refine wpList_app1n rfl _ _ 86 rfl base 5 (.int .u8 0) 1 1 Tryd.underlying86 hi.out rfl u0 _ _ rfl ho [.int .u8 s[j].toNat] wr.heap.size rfl rfl rfl (one_cell _ _) (by unfold maxLen; omega) (by omega) (by omega) ?_))
        intro v3 w3 ho3 hu3 hf3
        have ho3 : Own w3 base 5 v3 ((l ++ 2 :: esc (s.take j)) ++ [s[j]]) := own_snoc ho3 rfl
        go_wp2_with fail
        go_roundw
        case rel =>
          refine ⟨j + 1, by omega, by go_num, ?_, hG.trans ⟨hu3, hf3⟩, hU.trans hu3 fun b _ h => hne b h, fun b h => (hf3 b h).elim (hne b) (fun h => by omega)⟩
          rw [ets, esc_snoc, if_neg h0]
          simpa using ho3
        case measure => simp [intOf]; omega
    · obtain rfl : j = s.length := by omega
      rw [List.take_length] at ho hll
      go_wp2_with (at_builtin; go_must (refine wpList_appm rfl _ _ 86 rfl base 5 (.int .u8 0) 1 1 Tryd.underlying86 hi.out rfl _ _ _ rfl ho [.int .u8 0, .int .u8 1] 2 wr.heap.size rfl rfl rfl (by intro u hu; simp at hu; rcases hu with rfl | rfl <;> rfl) (by unfold maxLen; omega) (by omega) (by omega) ?_))
      intro v4 w4 ho4 hu4 hf4
      go_wp2_with fail
      go_ret
      have := own_app (l' := [0, 1]) ho4
      exact (hG.trans ⟨hu4, hf4⟩).grew (by simpa using this)

theorem tPut (base : Nat) (v : Value) (l : List UInt8) (p : Part) (w : World) (hn : numOk p) (hown : Own w base 5 v l) (hlen : l.length + 2 * p.s.length + 16 ≤ 140737488355328) (hb : base ≤ w.heap.size) :
    Calls Tryd.prog 75 #[v, pV p] w (Grew base 5 v (l ++ partB p) w) := by
  obtain ⟨k, n, s⟩ := p
  by_cases h2 : k = 2
  · subst h2
    exact tPut_up base v l s n w hn.1 hn.2 hown (by omega) hb
  · by_cases h3 : k = 3
    · subst h3
      exact tPut_down base v l s n w hn.1 hn.2 hown (by omega) hb
    · have := tPut_text base v l s n k w (by simp [h2]) (by simp [h3]) hown hlen hb
      have e : partB ⟨k, n, s⟩ = 2 :: (esc s ++ [0, 1]) := by simp [partB, h2, h3]
      rw [e]
      exact this
end Go.Proofs.YtaflpabpkpfifaaDoor
