/- The walks over package ambryref02: a part's bytes, a key's. -/
import Derived.Test.YtaflpabpkpfifaaDoorMTC
namespace Go.Proofs.YtaflpabpkpfifaaDoor
open Go.RowKit Go.Amb
set_option linter.unusedVariables false
attribute [local go_sem ↓] Go.wp_at_zero Go.wp_at_succ

set_option maxHeartbeats 400000 in
theorem rRight (p : Part) (w : World) : Calls Tryd.prog 86 #[pV p] w (Ret (.bool (rightP p)) w) := by
  obtain ⟨k, n, s⟩ := p
  have e : (n == 0) = decide (n = 0) := by by_cases h : n = 0 <;> simp [h]
  by_cases h1 : k = 1
  · subst h1
    by_cases hz : n = 0
    · subst hz
      go_enter Tryd.func86, Tryd.ntmps86
      go_wp2_with fail
      go_ret
      exact ⟨by simp [rightP], (Upd.refl _ _).then_alloc _⟩
    · have hz' : (n == 0) = false := by simp [hz]
      go_enter Tryd.func86, Tryd.ntmps86
      go_wp2_with fail
      go_ret
      exact ⟨by simp [rightP, hz], (Upd.refl _ _).then_alloc _⟩
  · have g1 : (k == 1) = false := by simp [h1]
    by_cases h2 : k = 2
    · subst h2
      go_enter Tryd.func86, Tryd.ntmps86
      go_wp2_with fail
      go_ret
      exact ⟨by simp [rightP], (Upd.refl _ _).then_alloc _⟩
    · by_cases h3 : k = 3
      · subst h3
        go_enter Tryd.func86, Tryd.ntmps86
        go_wp2_with fail
        go_ret
        exact ⟨by simp [rightP], (Upd.refl _ _).then_alloc _⟩
      · have g2 : (k == 2) = false := by simp [h2]
        have g3 : (k == 3) = false := by simp [h3]
        go_enter Tryd.func86, Tryd.ntmps86
        go_wp2_with fail
        go_ret
        exact ⟨by simp [rightP, h1, h2, h3], (Upd.refl _ _).then_alloc _⟩

set_option maxHeartbeats 400000 in
theorem rSize (p : Part) (w : World) (hs : p.s.length ≤ 140737488355328) : Calls Tryd.prog 87 #[pV p] w (Ret (.int .i64 (sizeP p)) w) := by
  obtain ⟨k, n, s⟩ := p
  simp only at hs
  by_cases h1 : k = 1
  · subst h1
    go_enter Tryd.func87, Tryd.ntmps87
    go_wp2_with fail
    go_loop [3, 4] (fun u i => ∃ j : Nat, j ≤ s.length ∧ i = .int .i64 j ∧ u = .int .i64 (3 + (s.length : Int) + (zeros (s.take j) : Nat))) (fun _ i => s.length - (intOf i).toNat)
    case atStart => exact ⟨0, by omega, rfl, by simp [zeros_nil]⟩
    case round =>
      obtain ⟨j, hj, rfl, rfl⟩ := hrel
      by_cases hlt : j < s.length
      · have hz := zeros_le (s.take j)
        have hl := List.length_take_le j s
        have ht : Hid (zeros (s.take (j + 1)) = zeros (s.take j) + if s[j] = 0 then 1 else 0) := by rw [take_snoc s j hlt]; exact zeros_snoc _ _
        by_cases h0 : s[j] = 0
        · have hb : ((((⟨s.toArray⟩ : ByteArray)[j]'(by simpa [ByteArray.size] using hlt)).toNat : Int) == 0) = true := by
            show ((s[j].toNat : Int) == 0) = true
            rw [h0]; rfl
          go_wp2_with fail
          go_round
          case rel => exact ⟨j + 1, by omega, by go_num, by rw [ht.out, if_pos h0]; congr 1⟩
          case measure => simp [intOf]; omega
        · have hb : ((((⟨s.toArray⟩ : ByteArray)[j]'(by simpa [ByteArray.size] using hlt)).toNat : Int) == 0) = false := by
            show ((s[j].toNat : Int) == 0) = false
            simp only [beq_eq_false_iff_ne, ne_eq]
            intro e
            exact h0 (UInt8.toNat_inj.1 (by simpa using e))
          go_wp2_with fail
          go_round
          case rel => exact ⟨j + 1, by omega, by go_num, by rw [ht.out, if_neg h0]; rfl⟩
          case measure => simp [intOf]; omega
      · obtain rfl : j = s.length := by omega
        rw [List.take_length]
        go_wp2_with fail
        go_ret
        refine ⟨?_, (Upd.refl _ _).then_alloc _⟩
        have e : ((sizeP ⟨1, n, s⟩ : Nat) : Int) = 3 + (s.length : Int) + (zeros s : Nat) := by simp [sizeP, sizeP.s0]
        rw [e]
        rfl
  · have g1 : (k == 1) = false := by simp [h1]
    have g2 : (k != 1) = true := by simp [h1]
    go_enter Tryd.func87, Tryd.ntmps87
    go_wp2_with fail
    go_ret
    exact ⟨by simp [sizeP, h1], (Upd.refl _ _).then_alloc _⟩

theorem total_take (l : List Part) (hr : l.all rightP = true) (k : Nat) (h : k < l.length) : (encB (l.take (k + 1))).length = (encB (l.take k)).length + sizeP l[k] := by
  rw [take_snoc l k h, encB_snoc, List.length_append, partB_length _ (List.all_eq_true.1 hr _ (List.getElem_mem h))]

set_option maxRecDepth 100000 in
set_option maxHeartbeats 2000000 in
theorem rCheck (v : Value) (l : List Part) (w : World) (hn : ∀ p ∈ l, numOk p ∧ p.s.length ≤ 140737488355328) (hP : Parts w v l) :
    Calls Tryd.prog 76 #[v] w (Ret (.int .i64 (encR l).2) w) := by
  obtain ⟨a, c, rfl, hlc, hc, hcell⟩ := parts_at hP
  have hmx := hc
  unfold maxLen at hmx
  replace hcell := Lib.hid hcell
  go_enter Tryd.func76, Tryd.ntmps76
  go_wp2_with fail
  go_loopw [3] (fun i wr => ∃ k : Nat, k ≤ l.length ∧ i = .int .i64 k ∧ (l.take k).all rightP = true ∧ Upd Non w wr) (fun i _ => l.length - (intOf i).toNat)
  case atStart => exact ⟨0, by omega, rfl, rfl, Upd.refl _ _⟩
  case round =>
    obtain ⟨k, hk, rfl, hr, hu⟩ := hrel
    replace hr := Lib.hid hr
    by_cases hlt : k < l.length
    · obtain ⟨g, off, rfl, c0, c1, c2⟩ := hcell.out k hlt
      replace c0 := hu.cell c0 fun h => h
      replace c1 := hu.cell c1 fun h => h
      replace c2 := hu.cell c2 fun h => h
      have ht := Lib.hid (take_snoc l k hlt)
      have harg := Lib.hid (fun h => encR_arg (l := l) hlt h)
      generalize hp : l[k] = p at *
      replace hp := Lib.hid hp
      go_wp2_with fail
      refine (rRight p _).mono ?_
      rintro e w1 ⟨rfl, hu1⟩
      have hu2 := hu.trans hu1 fun _ _ h => h
      cases hrp : rightP p with
      | true =>
        go_wp2_with fail
        go_roundw
        case rel => exact ⟨k + 1, by omega, by go_num, by rw [ht.out, List.all_append, hr.out]; simp [hrp], hu2⟩
        case measure => simp [intOf]; omega
      | false =>
        have he := Lib.hid (harg.out hrp)
        go_wp2_with fail
        go_ret
        exact ⟨by rw [he.out]; rfl, hu2⟩
    · obtain rfl : k = l.length := by omega
      rw [List.take_length] at hr
      go_wp2_with fail
      have hall := hr
      obtain ⟨wo, rfl⟩ : ∃ wo : World, wo = wr := ⟨_, rfl⟩
      go_loopw [4, 5] (fun n i wr => ∃ k : Nat, k ≤ l.length ∧ i = .int .i64 k ∧ n = .int .i64 ((encB (l.take k)).length : Nat) ∧ (encB (l.take k)).length ≤ 128 ∧ Upd Non w wr) (fun _ i _ => l.length - (intOf i).toNat)
      case atStart => exact ⟨0, by omega, rfl, rfl, by simp [encB_nil], hu⟩
      case round =>
        obtain ⟨k, hk, rfl, rfl, hb, hu⟩ := hrel
        by_cases hlt : k < l.length
        · obtain ⟨g, off, rfl, c0, c1, c2⟩ := hcell.out k hlt
          replace c0 := hu.cell c0 fun h => h
          replace c1 := hu.cell c1 fun h => h
          replace c2 := hu.cell c2 fun h => h
          have hnp := hn l[k] (List.getElem_mem hlt)
          have hrp := List.all_eq_true.1 hall.out l[k] (List.getElem_mem hlt)
          have hst : sizeP l[k] ≤ 3 + 2 * l[k].s.length + 9 := by unfold sizeP sizeP.s0; have := zeros_le l[k].s; split <;> omega
          have hbig := fun h => encR_big (l := l) (k := k + 1) hall.out h
          have ht := total_take l hall.out k hlt
          generalize hp : l[k] = p at *
          replace hp := Lib.hid hp
          generalize hm : (encB (l.take (k + 1))).length = m at *
          replace hm := Lib.hid hm
          generalize (encB (l.take k)).length = m0 at *
          replace hrp := Lib.hid hrp
          replace hbig := Lib.hid hbig
          obtain ⟨hn1, hn2⟩ := hnp
          have ht' : ((m0 : Int) + (sizeP p : Nat)) = m := by omega
          replace ht := Lib.hid ht
          go_wp2_with fail
          refine (rSize p _ hn2).mono ?_
          rintro e w3 ⟨rfl, hu3⟩
          have hu4 := hu.trans hu3 fun _ _ h => h
          by_cases h128 : m ≤ 128
          · have h128' : ¬ (128 : Int) < m := by omega
            go_wp2_with fail
            go_roundw
            case rel => exact ⟨k + 1, by omega, by go_num, by rw [hm.out], by rw [hm.out]; exact h128, hu4⟩
            case measure => simp [intOf]; omega
          · have h128' : (128 : Int) < m := by omega
            go_wp2_with fail
            go_ret
            exact ⟨by rw [hbig.out (by omega)]; rfl, hu4⟩
        · obtain rfl : k = l.length := by omega
          rw [List.take_length] at hb
          go_wp2_with fail
          go_ret
          exact ⟨by rw [encR_ok hall.out hb]; rfl, hu⟩
end Go.Proofs.YtaflpabpkpfifaaDoor
