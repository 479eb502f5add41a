/- The walks over package ambryref02: a part's bytes, a key's. -/
import Derived.Test.YtaflpabpkpfifaaDoorMTE
namespace Go.Proofs.YtaflpabpkpfifaaDoor
open Go.RowKit Go.Amb
set_option linter.unusedVariables false
attribute [local go_sem ↓] Go.wp_at_zero Go.wp_at_succ

theorem byte_top (b : UInt8) : (b ^^^ 128).toNat = (b.toNat + 128) % 256 := by
  have h : ∀ c : Fin 256, c.val ^^^ 128 = (c.val + 128) % 256 := by decide +kernel
  have := h ⟨b.toNat, b.toNat_lt⟩
  rw [UInt8.toNat_xor]
  exact this
theorem topT_fld (n : Int) : topT (fld n 8) = fld (n + 9223372036854775808) 8 := by
  rw [fld_succ n 7, fld_succ (n + 9223372036854775808) 7]
  have h1 : fld (n + 9223372036854775808) 7 = fld n 7 := by
    rw [← fld_mod (n + 9223372036854775808) 7 7 (Nat.le_refl _), ← fld_mod n 7 7 (Nat.le_refl _)]
    congr 1
    show (n + 9223372036854775808) % 72057594037927936 = n % 72057594037927936
    omega
  rw [h1]
  show (byteAt n 7 ^^^ 128) :: fld n 7 = _
  congr 1
  rw [← UInt8.toNat_inj, byte_top]
  have e1 := byteAt_int n 7
  have e2 := byteAt_int (n + 9223372036854775808) 7
  have e3 : (2 : Int) ^ (8 * 7) = 72057594037927936 := by decide
  rw [e3] at e1 e2
  omega
theorem downT_fld (U : Int) : downT (fld U 8) 8 = fld (18446744073709551615 - U) 8 := by
  have hl := fld_length U 8
  unfold downT
  rw [List.take_of_length_le (by omega), List.drop_of_length_le (by omega), List.append_nil]
  unfold fld fldTo
  rw [List.map_map]
  refine List.map_congr_left fun t ht => ?_
  have := List.mem_range.1 ht
  show 255 - byteAt U (8 - 1 - t) = _
  rw [← byteAt_not U _ (by omega), ← UInt8.toNat_inj, byte_not]
  have hb := (byteAt U (8 - 1 - t)).toNat_lt
  rw [UInt8.toNat_sub_of_le _ _ (by rw [UInt8.le_iff_toNat_le]; show _ ≤ 255; omega)]
  rfl

set_option maxHeartbeats 1000000 in
theorem rPart (p : Part) (w : World) (hn : numOk p) (hs : p.s.length ≤ 140737488355328) : Calls Tryd.prog 77 #[pV p] w (Ret (.string ⟨(partB p).toArray⟩) w) := by
  obtain ⟨k, n, s⟩ := p
  obtain ⟨h0, h1⟩ := hn
  simp only at h0 h1 hs
  by_cases h2 : k = 2
  · subst h2
    have e1 : (fld n 8).length = 8 := fld_length _ _
    have ef := refField n 8 (w.alloc (.cells #[.int .i64 2, .int .i64 n, .string ⟨s.toArray⟩] 81)) h0 h1 (by omega)
    have et := fun w => rTurned (fld n 8) false w (by omega) (by omega)
    have er : (if false = true then downT (topT (fld n 8)) (fld n 8).length else topT (fld n 8)) = fld (n + 9223372036854775808) 8 := topT_fld n
    rw [er] at et
    have hl : (fld (n + 9223372036854775808) 8).length = 8 := fld_length _ _
    have hp : partB ⟨2, n, s⟩ = 3 :: fld (n + 9223372036854775808) 8 := by simp [partB]
    rw [hp]
    clear er hp
    generalize fld n 8 = f1 at *
    generalize fld (n + 9223372036854775808) 8 = f2 at *
    have hl2 : 1 + f2.length ≤ 9223372036854775807 := by omega
    replace e1 := Lib.hid e1
    replace hl := Lib.hid hl
    replace ef := Lib.hid ef
    replace et := Lib.hid et
    go_enter Tryd.func77, Tryd.ntmps77
    go_wp2_with fail
    refine ef.out.mono ?_
    rintro e w1 ⟨rfl, hu1⟩
    go_wp2_with fail
    refine (et.out _).mono ?_
    rintro e w2 ⟨rfl, hu2⟩
    go_wp2_with fail
    go_ret
    exact ⟨congrArg (fun b => Ending.returned (.string b)) (ByteArray.mk_append_mk [3] f2), ((Upd.alloc Non w _).trans hu1 fun _ _ h => h).trans hu2 fun _ _ h => h⟩
  · by_cases h3 : k = 3
    · subst h3
      have e1 : (fld n 8).length = 8 := fld_length _ _
      have ef := refField n 8 (w.alloc (.cells #[.int .i64 3, .int .i64 n, .string ⟨s.toArray⟩] 81)) h0 h1 (by omega)
      have et := fun w => rTurned (fld n 8) true w (by omega) (by omega)
      have er : (if true = true then downT (topT (fld n 8)) (fld n 8).length else topT (fld n 8)) = fld (9223372036854775807 - n) 8 := by
        show downT (topT (fld n 8)) (fld n 8).length = _
        rw [topT_fld, e1, downT_fld]
        congr 1
        omega
      rw [er] at et
      have hl : (fld (9223372036854775807 - n) 8).length = 8 := fld_length _ _
      have hp : partB ⟨3, n, s⟩ = 4 :: fld (9223372036854775807 - n) 8 := by simp [partB]
      rw [hp]
      clear er hp
      generalize fld n 8 = f1 at *
      generalize fld (9223372036854775807 - n) 8 = f2 at *
      have hl2 : 1 + f2.length ≤ 9223372036854775807 := by omega
      replace e1 := Lib.hid e1
      replace hl := Lib.hid hl
      replace ef := Lib.hid ef
      replace et := Lib.hid et
      go_enter Tryd.func77, Tryd.ntmps77
      go_wp2_with fail
      refine ef.out.mono ?_
      rintro e w1 ⟨rfl, hu1⟩
      go_wp2_with fail
      refine (et.out _).mono ?_
      rintro e w2 ⟨rfl, hu2⟩
      go_wp2_with fail
      go_ret
      exact ⟨congrArg (fun b => Ending.returned (.string b)) (ByteArray.mk_append_mk [4] f2), ((Upd.alloc Non w _).trans hu1 fun _ _ h => h).trans hu2 fun _ _ h => h⟩
    · have g2 : (k == 2) = false := by simp [h2]
      have g3 : (k == 3) = false := by simp [h3]
      have hp : partB ⟨k, n, s⟩ = 2 :: (esc s ++ [0, 1]) := by simp [partB, h2, h3]
      rw [hp]
      clear hp
      go_enter Tryd.func77, Tryd.ntmps77
      go_wp2_with fail
      go_loop [3, 4] (fun u i => ∃ j : Nat, j ≤ s.length ∧ i = .int .i64 j ∧ u = .string ⟨(2 :: esc (s.take j)).toArray⟩) (fun _ i => s.length - (intOf i).toNat)
      case atStart => exact ⟨0, by omega, rfl, rfl⟩
      case round =>
        obtain ⟨j, hj, rfl, rfl⟩ := hrel
        have hel := esc_length (s.take j)
        have hzl := zeros_le (s.take j)
        have htl := List.length_take_le j s
        by_cases hlt : j < s.length
        · have hb1 : ((((⟨s.toArray⟩ : ByteArray)[j]'(by simpa [ByteArray.size] using hlt)).toNat : Int) == 0) = (s[j] == 0) := by
            show ((s[j].toNat : Int) == 0) = _
            by_cases h : s[j] = 0
            · rw [h]; rfl
            · have : ((s[j].toNat : Int) == 0) = false := by
                simp only [beq_eq_false_iff_ne, ne_eq]
                intro e
                exact h (UInt8.toNat_inj.1 (by simpa using e))
              rw [this]; simp [h]
          have hsub : ∀ w, (Instr.slice 9 (.string ⟨s.toArray⟩) (some (.int .i64 (j : Int))) (some (.int .i64 ((j : Int) + 1))) none).run Tryd.prog w = .ok (.string ⟨[s[j]].toArray⟩) w := by
            intro w
            have := run_sub (P := Tryd.prog) 9 Tryd.underlying9 s j ((j : Int) + 1) j (j + 1) rfl (by omega) (by omega) hlt w
            rw [this, Nat.add_sub_cancel_left, List.drop_eq_getElem_cons hlt]
            rfl
          have ets := Lib.hid (take_snoc s j hlt)
          have hla : (esc (s.take j)).length + 1 + 1 ≤ 9223372036854775807 := by omega
          have hlb : (esc (s.take j)).length + 1 + 1 + 1 ≤ 9223372036854775807 := by omega
          cases h0 : (s[j] == 0) with
          | true =>
            rw [h0] at hb1
            have h0 := Lib.hid h0
            go_wp2_with fail
            go_round
            case rel =>
              refine ⟨j + 1, by omega, by go_num, ?_⟩
              have := eq_of_beq h0.out
              rw [ets.out, esc_snoc, if_pos this, this]
              congr 1 <;> simp [ByteArray.mk_append_mk]
            case measure => simp [intOf]; omega
          | false =>
            rw [h0] at hb1
            have h0 := Lib.hid h0
            go_wp2_with fail
            go_round
            case rel =>
              refine ⟨j + 1, by omega, by go_num, ?_⟩
              have := ne_of_beq_false h0.out
              rw [ets.out, esc_snoc, if_neg this]
              congr 1 <;> simp [ByteArray.mk_append_mk]
            case measure => simp [intOf]; omega
        · obtain rfl : j = s.length := by omega
          rw [List.take_length] at *
          have hl9 : (esc s).length + 1 + 2 ≤ 9223372036854775807 := by omega
          go_wp2_with fail
          go_ret
          refine ⟨?_, (Upd.refl _ _).then_alloc _⟩
          exact congrArg (fun b => Ending.returned (.string b)) (by rw [ByteArray.mk_append_mk]; rfl)

theorem encB_take_128 {l : List Part} (h : (encB l).length ≤ 128) (k : Nat) : (encB (l.take k)).length ≤ 128 := by have := encB_take_le l k; omega
theorem partB_le {p : Part} : (partB p).length ≤ 2 * p.s.length + 9 := by
  unfold partB
  have h1 := esc_length p.s
  have h2 := zeros_le p.s
  split
  · simp [fld_length]
  · split
    · simp [fld_length]
    · simp only [List.length_cons, List.length_append, List.length_nil]; omega

set_option maxRecDepth 100000 in
set_option maxHeartbeats 1000000 in
theorem rEncode (v : Value) (l : List Part) (w : World) (hn : ∀ p ∈ l, numOk p ∧ p.s.length ≤ 140737488355328) (hP : Parts w v l) :
    Calls Tryd.prog 60 #[v] w (Ret (.tuple #[.string ⟨(encR l).1.toArray⟩, .int .i64 (encR l).2]) w) := by
  have hck := Lib.hid (rCheck v l w hn hP)
  obtain ⟨a, c, rfl, hlc, hc, hcell⟩ := parts_at hP
  have hmx := hc
  unfold maxLen at hmx
  replace hcell := Lib.hid hcell
  by_cases hok : (encR l).2 = 0
  · have he : l.all rightP = true ∧ (encB l).length ≤ 128 := by
      unfold encR at hok
      by_cases h1 : l.all rightP = true
      · rw [if_pos h1] at hok
        by_cases h2 : (encB l).length ≤ 128
        · exact ⟨h1, h2⟩
        · rw [if_neg h2] at hok; cases hok
      · rw [if_neg h1] at hok; cases hok
    have her := Lib.hid (encR_ok he.1 he.2)
    rw [her.out] at hck
    simp only at hck
    go_enter Tryd.func60, Tryd.ntmps60
    go_wp2_with fail
    refine hck.out.mono ?_
    rintro e w1 ⟨rfl, hu1⟩
    go_wp2_with fail
    go_loopw [5, 6] (fun u i wr => ∃ k : Nat, k ≤ l.length ∧ i = .int .i64 k ∧ u = .string ⟨(encB (l.take k)).toArray⟩ ∧ Upd Non w wr) (fun _ i _ => l.length - (intOf i).toNat)
    case atStart => exact ⟨0, by omega, rfl, rfl, hu1⟩
    case round =>
      obtain ⟨k, hk, rfl, rfl, hu⟩ := hrel
      by_cases hlt : k < l.length
      · obtain ⟨g, off, rfl, c0, c1, c2⟩ := hcell.out k hlt
        replace c0 := hu.cell c0 fun h => h
        replace c1 := hu.cell c1 fun h => h
        replace c2 := hu.cell c2 fun h => h
        have hnp := hn l[k] (List.getElem_mem hlt)
        have ht := Lib.hid (take_snoc l k hlt)
        have h128 := encB_take_128 he.2 k
        have hpl := partB_le (p := l[k])
        generalize hp : l[k] = p at *
        replace hp := Lib.hid hp
        have hlen : (encB (l.take k)).length + (partB p).length ≤ 9223372036854775807 := by have := hnp.2; omega
        go_wp2_with fail
        refine (rPart p _ hnp.1 hnp.2).mono ?_
        rintro e w3 ⟨rfl, hu3⟩
        have hu4 := hu.trans hu3 fun _ _ h => h
        go_wp2_with fail
        go_roundw
        case rel => exact ⟨k + 1, by omega, by go_num, by rw [ht.out, encB_snoc, ByteArray.mk_append_mk], hu4⟩
        case measure => simp [intOf]; omega
      · obtain rfl : k = l.length := by omega
        rw [List.take_length]
        go_wp2_with fail
        go_ret2
        exact ⟨by rw [her.out]; rfl, hu⟩
  · have he : (encR l).1 = [] := by
      unfold encR at hok ⊢
      by_cases h1 : l.all rightP = true
      · rw [if_pos h1] at hok ⊢
        by_cases h2 : (encB l).length ≤ 128
        · rw [if_pos h2] at hok; exact absurd rfl hok
        · rw [if_neg h2]
      · rw [if_neg h1]
    generalize encR l = q at *
    obtain ⟨q1, q2⟩ := q
    simp only at he hok hck
    subst he
    have hok' : (q2 == 0) = false := by simp [hok]
    go_enter Tryd.func60, Tryd.ntmps60
    go_wp2_with fail
    refine hck.out.mono ?_
    rintro e w1 ⟨rfl, hu1⟩
    go_wp2_with fail
    go_ret2
    exact ⟨rfl, hu1⟩
end Go.Proofs.YtaflpabpkpfifaaDoor
