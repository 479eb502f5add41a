/- Plain: a disk that dies at its fuse. -/
import Derived.Test.YtgdkgnolkepgdaaMBlQ
namespace Go.Amb
open Go.RowKit
set_option linter.unusedVariables false
/-- A disk of eight sectors that lives, its fuse at m. -/
structure Fused (d : Dk) (m : Nat) : Prop where
  f : d.f = m
  dd : d.dd = false
  len : d.K.length = 8
/-- A disk that is dead. -/
structure Gone (d : Dk) : Prop where
  dd : d.dd = true
  len : d.K.length = 8
theorem fused_init (d : Dk) (n : Nat) (hK : d.K.length = 8) : Fused ((d.crash []).arm n).1 n := by
  unfold Dk.arm
  rw [if_neg (by simp [Dk.crash])]
  exact ⟨by simp only; omega, rfl, by show (d.crash []).K.length = 8; rw [crash_K]; exact hK⟩
theorem Fused.burn {d : Dk} {m : Nat} (h : Fused d (m + 1)) : d.burn = ({ d with f := m }, 0) := by
  unfold Dk.burn
  rw [if_neg (by rw [h.f]; omega), if_pos (by rw [h.f]; omega), h.f]
  congr 2
  omega
theorem Fused.within {d : Dk} {m : Nat} (h : Fused d m) {i : Nat} (hi : i < 8) : d.within (i : Int) = 0 := by
  unfold Dk.within
  rw [if_neg (by simp [h.dd]), if_neg (by rw [h.len]; omega)]
theorem Fused.flush {d : Dk} {m : Nat} (h : Fused d (m + 1)) : d.flush.2 = 0 ∧ Fused d.flush.1 m ∧ d.flush.1.P.length ≤ d.P.length := by
  have hb := h.burn
  refine ⟨?_, ?_, flush_P d⟩
  · unfold Dk.flush; rw [if_neg (by simp [h.dd]), hb, if_neg (by simp)]
  · unfold Dk.flush; rw [if_neg (by simp [h.dd]), hb, if_neg (by simp)]
    exact ⟨rfl, h.dd, by rw [keep_K, keepK_length]; exact h.len⟩
theorem Fused.write {d : Dk} {m : Nat} (h : Fused d (m + 1)) {i : Nat} (hi : i < 8) (s : List UInt8) (hs : s.length ≤ 128) : (d.write i s).2 = 0 ∧ Fused (d.write i s).1 m := by
  have hb := h.burn
  unfold Dk.write
  rw [if_neg (by simp [h.within hi]), if_neg (by omega), hb, if_neg (by simp)]
  exact ⟨rfl, rfl, h.dd, h.len⟩
theorem Fused.dies {d : Dk} (h : Fused d 0) {i : Nat} (hi : i < 8) (s : List UInt8) (hs : s.length ≤ 128) : (d.write i s).2 = 20 ∧ Gone (d.write i s).1 ∧ (d.write i s).1.P = d.P := by
  have hb : d.burn = ({ d with dd := true }, 20) := by unfold Dk.burn; rw [if_pos (by rw [h.f]; rfl)]
  unfold Dk.write
  rw [if_neg (by simp [h.within hi]), if_neg (by omega), hb, if_pos (by simp)]
  exact ⟨rfl, ⟨rfl, h.len⟩, rfl⟩
theorem Gone.within {d : Dk} (h : Gone d) (i : Int) : d.within i = 20 := by unfold Dk.within; rw [if_pos h.dd]
theorem Gone.flush {d : Dk} (h : Gone d) : d.flush = (d, 20) := by unfold Dk.flush; rw [if_pos h.dd]
theorem Gone.write {d : Dk} (h : Gone d) (i : Int) (s : List UInt8) : d.write i s = (d, 20) := by
  unfold Dk.write; rw [if_pos (by rw [h.within i]; omega), h.within i]
theorem Gone.arm {d : Dk} (h : Gone d) (n : Int) : d.arm n = (d, 20) := by unfold Dk.arm; rw [if_pos h.dd]
theorem crash_writes (d : Dk) (l : List Int) (i : Nat) (s : List UInt8) (hi : i < d.K.length) (hs : s.length ≤ 128) : ((d.crash l).write i s).2 = 0 := by
  have hb := crash_burn d l
  unfold Dk.write
  rw [if_neg (by rw [crash_within d l i hi]; simp), if_neg (by omega), hb, if_neg (by simp)]
end Go.Amb
