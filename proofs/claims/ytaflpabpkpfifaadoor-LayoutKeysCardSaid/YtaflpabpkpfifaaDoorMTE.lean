/- The walks over package ambryref02: the bytes. -/
import Derived.Test.YtaflpabpkpfifaaDoorMTD
namespace Go.Proofs.YtaflpabpkpfifaaDoor
open Go.RowKit Go.Amb
set_option linter.unusedVariables false
attribute [local go_sem ↓] Go.wp_at_zero Go.wp_at_succ

/-- The bytes with the first one's highest bit turned; down: each is turned, too, up to one. -/
def topT (s : List UInt8) : List UInt8 := s.set 0 ((s[0]?.getD 0) ^^^ 128)
def downT (s : List UInt8) (k : Nat) : List UInt8 := (s.take k).map (255 - ·) ++ s.drop k
theorem downT_length (s : List UInt8) (k : Nat) : (downT s k).length = s.length := by simp [downT]; omega
theorem downT_succ (s : List UInt8) (k : Nat) (h : k < s.length) : downT s (k + 1) = (downT s k).set k (255 - s[k]) := by
  unfold downT
  have hl : ((s.take k).map (255 - ·)).length = k := by simp; omega
  rw [take_snoc s k h, List.map_append, List.set_append_right _ _ (by omega), hl, Nat.sub_self, List.append_assoc, List.drop_eq_getElem_cons h]
  rfl
theorem downT_get (s : List UInt8) (k : Nat) (h : k < s.length) : (downT s k)[k]'(by rw [downT_length]; exact h) = s[k] := by
  unfold downT
  have hl : ((s.take k).map (255 - ·)).length = k := by simp; omega
  rw [List.getElem_append_right (by omega)]
  simp only [hl, Nat.sub_self, List.getElem_drop, Nat.add_zero]
theorem topT_length (s : List UInt8) : (topT s).length = s.length := by simp [topT]
theorem u8_sub (b : UInt8) : IntKind.u8.wrap (255 - (b.toNat : Int)) = (((255 : UInt8) - b).toNat : Int) := by
  have hb := b.toNat_lt
  have e : ((255 : UInt8) - b).toNat = 255 - b.toNat := by
    have h : (b.toNat : Nat) ≤ 255 := by omega
    rw [UInt8.toNat_sub_of_le _ _ (by rw [UInt8.le_iff_toNat_le]; simpa using h)]
    rfl
  rw [e]
  simp only [IntKind.wrap, IntKind.bits, IntKind.signed]
  simp; omega

set_option maxRecDepth 100000 in
set_option maxHeartbeats 1000000 in
theorem rTurned (s : List UInt8) (down : Bool) (w : World) (h0 : 0 < s.length) (hs : s.length ≤ 1000) :
    Calls Tryd.prog 88 #[.string ⟨s.toArray⟩, .bool down] w (Ret (.string ⟨(if down then downT (topT s) s.length else topT s).toArray⟩) w) := by
  generalize hres : (if down then downT (topT s) s.length else topT s) = res
  replace hres := Lib.hid hres
  go_enter Tryd.func88, Tryd.ntmps88
  go_wp2_with (refine wpList_tobytes rfl _ 9 86 5 rfl Tryd.underlying9 Tryd.underlying86 Tryd.underlying5 s rfl (by unfold maxLen; omega) ?_)
  intro c w1 hm
  have hcap := hm.cap
  have hmax := hm.max
  unfold maxLen at hmax
  have hu1 := Lib.hid hm.upd
  have hrow := hm.row
  have hN : w.heap.size ≤ w.heap.size := Nat.le_refl _
  have hz := hm.size
  clear hm
  generalize hNe : w.heap.size = N at hrow hz
  have e0 := (hrow 0 h0).1
  have f0 := (hrow 0 h0).2
  have h0' : (0 : Int) < (s.length : Int) := by omega
  have hx : bits .xor .u8 (s[0].toNat : Int) 128 = ((s[0] ^^^ 128).toNat : Int) := xor_u8 s[0] 128
  have hrow2 := Lib.hid (hrow.set h0 hx)
  have et : s.set 0 (s[0] ^^^ 128) = topT s := by unfold topT; rw [List.getElem?_eq_getElem h0]; rfl
  rw [et] at hrow2
  replace hrow := Lib.hid hrow
  replace hx := Lib.hid hx
  replace et := Lib.hid et
  replace hNe := Lib.hid hNe
  go_wp2_with fail
  generalize hw2 : w1.setCell _ _ = w2 at *
  have hu2 : Upd Non w w2 := by rw [← hw2]; exact hu1.out.then_setCell (fun h => by have := hNe.out; simp only at h; omega) _
  clear e0 f0 hw2
  have hl := topT_length s
  generalize topT s = t at *
  clear hrow hx et
  generalize s[0] = b0 at *
  generalize hn : s.length = n at *
  replace hn := Lib.hid hn
  replace hl := Lib.hid hl
  go_loopw [6] (fun i wr => ∃ k : Nat, k ≤ n ∧ i = .int .i64 k ∧ RowB wr N (downT t k) ∧ Upd Non w wr ∧ (down = false → k = 0)) (fun i _ => n - (intOf i).toNat)
  case atStart => exact ⟨0, by omega, rfl, by simpa [downT] using hrow2.out, hu2, fun _ => rfl⟩
  case round =>
    obtain ⟨k, hk, rfl, hr, hu, hd⟩ := hrel
    replace hd := Lib.hid hd
    by_cases hgo : k < n ∧ down = true
    · obtain ⟨hlt, rfl⟩ := hgo
      have hkl : k < (downT t k).length := by rw [downT_length, hl.out]; exact hlt
      have hkt : k < t.length := by rw [hl.out]; exact hlt
      obtain ⟨ck, fk⟩ := hr k hkl
      rw [downT_get t k hkt] at ck
      have hset := hr.set hkl (u8_sub t[k])
      rw [← downT_succ t k hkt] at hset
      replace hset := Lib.hid hset
      replace hr := Lib.hid hr
      have hlt' : (k : Int) < n := by omega
      go_wp2_with fail
      go_roundw
      case rel => exact ⟨k + 1, by omega, by go_num, hset.out, hu.then_setCell (fun h => by have := hNe.out; simp only at h; omega) _, fun h => by cases h⟩
      case measure => simp [intOf]; omega
    · have hB : Bytes wr (.slice (some ⟨N, 0, none⟩) res.length c) res ∧ res.length = n := by
        have e := hres.out
        cases down with
        | false =>
          obtain rfl := hd.out rfl
          have e : t = res := e
          have e2 : downT t 0 = t := by simp [downT]
          rw [e2, e] at hr
          have : res.length = n := by rw [← e, hl.out]
          exact ⟨hr.bytes (by omega) (by unfold maxLen; omega), this⟩
        | true =>
          have e : downT t n = res := e
          obtain rfl : k = n := by
            by_cases h : k < n
            · exact absurd ⟨h, rfl⟩ hgo
            · omega
          rw [e] at hr
          have : res.length = k := by rw [← e, downT_length, hl.out]
          exact ⟨hr.bytes (by omega) (by unfold maxLen; omega), this⟩
      obtain ⟨hB, rfl⟩ := hB
      have hstr := run_str (P := Tryd.prog) _ 86 9 5 Tryd.underlying86 Tryd.underlying5 Tryd.underlying9 _ _ hB
      have ht : ¬ (k : Int) < res.length ∨ down = false := by
        by_cases h : k < res.length
        · right
          cases down with
          | false => rfl
          | true => exact absurd ⟨h, rfl⟩ hgo
        · left; omega
      clear hgo
      replace hB := Lib.hid hB
      by_cases hlt : (k : Int) < res.length
      · have hd : down = false := ht.resolve_left (fun h => h hlt)
        subst hd
        clear ht
        go_wp2_with fail
        go_ret
        exact ⟨rfl, hu⟩
      · clear ht
        go_wp2_with fail
        go_ret
        exact ⟨rfl, hu⟩
end Go.Proofs.YtaflpabpkpfifaaDoor
