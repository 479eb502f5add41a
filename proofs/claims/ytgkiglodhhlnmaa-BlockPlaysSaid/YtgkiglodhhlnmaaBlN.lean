/- The reference point: a disk lives. -/
import Derived.Test.YtgkiglodhhlnmaaBlM
import Derived.Lib.SlBytesConst
namespace Go.Proofs.Ytgkiglodhhlnmaa
open Go.RowKit Go.Amb Go.Shelf
set_option linter.unusedVariables false
set_option linter.unusedSimpArgs false
set_option maxRecDepth 100000
theorem bytes_at {w : World} {v : Value} {s : List UInt8} (h : Bytes w v s) (hs : 0 < s.length) : ∃ g off cap, v = .slice (some ⟨g, off, none⟩) s.length cap ∧ s.length ≤ cap ∧ cap ≤ maxLen ∧ ∀ j (hj : j < s.length), w.cell? ⟨g, off + j, none⟩ = some (.int .u8 (s[j].toNat : Int)) := by
  obtain ⟨_, a, c, rfl, h1, h2, h3⟩ := h
  obtain ⟨g, off, rfl, hc⟩ := h3.resolve_left (by omega)
  exact ⟨g, off, c, rfl, h1, h2, fun j hj => hc j _ ((bc_get s j _).2 ⟨hj, rfl⟩)⟩
theorem bytes_const (w : World) (e : TypeId) (l : List UInt8) (m : Nat × Nat) (h : l.length ≤ maxLen) : Bytes (w.alloc (.cells (bc l).toArray e m)) (.slice (some ⟨w.heap.size, 0, none⟩) l.length l.length) l :=
  ⟨by rw [bc_length, Nat.mul_one], _, _, rfl, Nat.le_refl _, h, .inr ⟨w.heap.size, 0, rfl, fun j u hj => by rw [Nat.zero_add, World.cell?_alloc_mark]; simpa using hj⟩⟩
/-- A sector's bytes as a slice: its form, and its first byte. -/
theorem sector_at {w : World} {F : Nat → Prop} {v : Value} {s : List UInt8} {x : UInt8} (h : Apart w F v s) (hl : s.length = 128) (hx : s[0]? = some x) : ∃ g off c, v = .slice (some ⟨g, off, none⟩) 128 c := by
  obtain ⟨g, off, c, rfl, -⟩ := bytes_at h.has (by omega)
  rw [hl]; exact ⟨g, off, c, rfl⟩
theorem sector_0 {w : World} {g off c : Nat} {s : List UInt8} {x : UInt8} (h : Bytes w (.slice (some ⟨g, off, none⟩) 128 c) s) (hl : s.length = 128) (hx : s[0]? = some x) : w.cell? ⟨g, off, none⟩ = some (.int .u8 (x.toNat : Int)) := by
  obtain ⟨g', off', c', h1, -, -, hc⟩ := bytes_at h (by omega)
  injection h1 with h1
  injection h1 with h1
  injection h1 with h1 h2
  subst h1 h2
  have := hc 0 (by omega)
  rw [Nat.add_zero] at this
  rw [this]
  rw [List.getElem?_eq_getElem (by omega)] at hx
  injection hx with hx
  rw [hx]
set_option maxHeartbeats 4000000 in
theorem lives04 (w : World) : Calls Try.prog 12 #[] w (Ret (.bool true) w) := by
  obtain ⟨d0, h0⟩ : ∃ d, Dk.new 2 = d := ⟨_, rfl⟩
  obtain ⟨d1, h1⟩ : ∃ d, ((Dk.new 2).write 0 [97]).1 = d := ⟨_, rfl⟩
  obtain ⟨d2, h2⟩ : ∃ d, (((Dk.new 2).write 0 [97]).1.write 0 [98]).1 = d := ⟨_, rfl⟩
  obtain ⟨d3, h3⟩ : ∃ d, ((((Dk.new 2).write 0 [97]).1.write 0 [98]).1.write 1 [99]).1 = d := ⟨_, rfl⟩
  obtain ⟨d4, h4⟩ : ∃ d, (((((Dk.new 2).write 0 [97]).1.write 0 [98]).1.write 1 [99]).1.crash [0, 2]) = d := ⟨_, rfl⟩
  obtain ⟨d5, h5⟩ : ∃ d, ((((((Dk.new 2).write 0 [97]).1.write 0 [98]).1.write 1 [99]).1.crash [0, 2]).arm 1).1 = d := ⟨_, rfl⟩
  obtain ⟨d6, h6⟩ : ∃ d, (((((((Dk.new 2).write 0 [97]).1.write 0 [98]).1.write 1 [99]).1.crash [0, 2]).arm 1).1.write 1 [113]).1 = d := ⟨_, rfl⟩
  obtain ⟨d7, h7⟩ : ∃ d, (((((((Dk.new 2).write 0 [97]).1.write 0 [98]).1.write 1 [99]).1.crash [0, 2]).arm 1).1.write 1 [113]).1.flush.1 = d := ⟨_, rfl⟩
  obtain ⟨d8, h8⟩ : ∃ d, (((((((Dk.new 2).write 0 [97]).1.write 0 [98]).1.write 1 [99]).1.crash [0, 2]).arm 1).1.write 1 [113]).1.flush.1.crash [] = d := ⟨_, rfl⟩
  have e1 : (d0.write 0 [97]).1 = d1 := by rw [← h0]; exact h1
  have e2 : (d1.write 0 [98]).1 = d2 := by rw [← h1]; exact h2
  have e3 : (d2.write 1 [99]).1 = d3 := by rw [← h2]; exact h3
  have e4 : d3.crash [0, 2] = d4 := by rw [← h3]; exact h4
  have e5 : (d4.arm 1).1 = d5 := by rw [← h4]; exact h5
  have e6 : (d5.write 1 [113]).1 = d6 := by rw [← h5]; exact h6
  have e7 : d6.flush.1 = d7 := by rw [← h6]; exact h7
  have e8 : d7.crash [] = d8 := by rw [← h7]; exact h8
  have rx : (d3.reads 0)[0]? = some 98 ∧ (d3.reads 0).length = 128 := by rw [← h3]; decide +kernel
  have ry : (d4.reads 0)[0]? = some 97 ∧ (d4.reads 0).length = 128 := by rw [← h4]; decide +kernel
  have rz : (d4.reads 1)[0]? = some 99 ∧ (d4.reads 1).length = 128 := by rw [← h4]; decide +kernel
  have rw8 : (d8.reads 1)[0]? = some 99 ∧ (d8.reads 1).length = 128 := by rw [← h8]; decide +kernel
  have rv : (d5.write 1 [113]).2 = 0 ∧ d6.flush.2 = 20 ∧ d7.within 1 = 20 ∧ d8.within 1 = 0 := by rw [← h5, ← h6, ← h7, ← h8]; decide +kernel
  have cN := Lib.hid (lvNew 2 (by omega) (by omega) w)
  rw [h0] at cN
  have kc := fun (w : World) (C : Array Value) (n c : Nat) => Lib.run_convert_bytes_const (P := Try.prog) w 30 5 C n c Try.underlying30 Try.underlying5
  go_enter Try.func12, Try.ntmps12
  go_wp2_with fail
  refine cN.out.mono ?_
  rintro en w1 ⟨D, F1, rfl, L1⟩
  clear cN
  have hA1 : Upd Non w1 (w1.alloc (.cells #[.int .u8 97] 5 (1, 2))) := Upd.alloc _ _ _
  have M1 := L1.non hA1
  have hB1 : Bytes (w1.alloc (.cells #[.int .u8 97] 5 (1, 2))) (.slice (some ⟨w1.heap.size, 0, none⟩) 1 1) [97] := bytes_const w1 5 [97] (1, 2) (by decide)
  have hv1 : ∀ k, At (.slice (some ⟨w1.heap.size, 0, none⟩) 1 1) k → ¬ F1 k := fun k hk hF => by have := L1.at_.lt k hF; have := at_of hk; omega
  have cW1 := Lib.hid (lvWrite M1 (by rw [← h0]; decide +kernel) 0 [97] _ hB1 hv1)
  clear M1 hB1 hv1
  go_wp2_with fail
  refine cW1.out.mono ?_
  clear cW1
  rintro en w2 ⟨rfl, F2, L2, -⟩
  rw [e1] at L2
  have hA2 : Upd Non w2 (w2.alloc (.cells #[.int .u8 98] 5 (1, 2))) := Upd.alloc _ _ _
  have M2 := L2.non hA2
  have hB2 : Bytes (w2.alloc (.cells #[.int .u8 98] 5 (1, 2))) (.slice (some ⟨w2.heap.size, 0, none⟩) 1 1) [98] := bytes_const w2 5 [98] (1, 2) (by decide)
  have hv2 : ∀ k, At (.slice (some ⟨w2.heap.size, 0, none⟩) 1 1) k → ¬ F2 k := fun k hk hF => by have := L2.at_.lt k hF; have := at_of hk; omega
  have cW2 := Lib.hid (lvWrite M2 (by rw [← h1]; decide +kernel) 0 [98] _ hB2 hv2)
  clear M2 hB2 hv2
  go_wp2_with fail
  refine cW2.out.mono ?_
  clear cW2
  rintro en w3 ⟨rfl, F3, L3, -⟩
  rw [e2] at L3
  have hA3 : Upd Non w3 (w3.alloc (.cells #[.int .u8 99] 5 (1, 2))) := Upd.alloc _ _ _
  have M3 := L3.non hA3
  have hB3 : Bytes (w3.alloc (.cells #[.int .u8 99] 5 (1, 2))) (.slice (some ⟨w3.heap.size, 0, none⟩) 1 1) [99] := bytes_const w3 5 [99] (1, 2) (by decide)
  have hv3 : ∀ k, At (.slice (some ⟨w3.heap.size, 0, none⟩) 1 1) k → ¬ F3 k := fun k hk hF => by have := L3.at_.lt k hF; have := at_of hk; omega
  have cW3 := Lib.hid (lvWrite M3 (by rw [← h2]; decide +kernel) 1 [99] _ hB3 hv3)
  clear M3 hB3 hv3
  go_wp2_with fail
  refine cW3.out.mono ?_
  clear cW3
  rintro en w4 ⟨rfl, F4, L4, -⟩
  rw [e3] at L4
  have cR1 := Lib.hid (lvRead L4 (by rw [← h3]; decide +kernel) 0)
  go_wp2_with fail
  refine cR1.out.mono ?_
  clear cR1
  rintro en w5 ⟨vx, rfl, Ax, L5, -⟩
  have hA5 : Upd Non w5 (w5.alloc (.cells #[.int .i64 0, .int .i64 2] 3)) := Upd.alloc _ _ _
  have hI5 : Ints (w5.alloc (.cells #[.int .i64 0, .int .i64 2] 3)) (.slice (some ⟨w5.heap.size, 0, none⟩) 2 2) [0, 2] := has_new w5 [.int .i64 0, .int .i64 2] 3 1 2 rfl (by decide)
  have cC1 := Lib.hid (lvCrash (L5.non hA5) (by rw [← h3]; decide +kernel) _ [0, 2] hI5 (fun _ k hk hF => by have := L5.at_.lt k hF; have := at_of hk; omega))
  have Ax := Ax.keep (Kp.non hA5)
  clear hI5
  go_wp2_with fail
  refine cC1.out.mono ?_
  clear cC1
  rintro en w6 ⟨rfl, F6, L6, k6⟩
  rw [e4] at L6
  have Ax := Ax.keep k6
  have cR2 := Lib.hid (lvRead L6 (by rw [← h4]; decide +kernel) 0)
  go_wp2_with fail
  refine cR2.out.mono ?_
  clear cR2
  rintro en w7 ⟨vy, rfl, Ay, L7, u7⟩
  have Ax := Ax.keep (Kp.non u7)
  have cR3 := Lib.hid (lvRead L7 (by rw [← h4]; decide +kernel) 1)
  go_wp2_with fail
  refine cR3.out.mono ?_
  clear cR3
  rintro en w8 ⟨vz, rfl, Az, L8, u8⟩
  have Ax := Ax.keep (Kp.non u8)
  have Ay := Ay.keep (Kp.non u8)
  obtain ⟨gx, ox, cx, rfl⟩ := sector_at Ax rx.2 rx.1
  obtain ⟨gy, oy, cy, rfl⟩ := sector_at Ay ry.2 ry.1
  obtain ⟨gz, oz, cz, rfl⟩ := sector_at Az rz.2 rz.1
  have cA := Lib.hid (lvArm L8 1 (by omega))
  go_wp2_with fail
  refine cA.out.mono ?_
  clear cA
  rintro en w9 ⟨rfl, F9, L9, k9⟩
  rw [e5] at L9
  have Ax := Ax.keep k9
  have Ay := Ay.keep k9
  have Az := Az.keep k9
  have hA9 : Upd Non w9 (w9.alloc (.cells #[.int .u8 113] 5 (1, 2))) := Upd.alloc _ _ _
  have M9 := L9.non hA9
  have hB9 : Bytes (w9.alloc (.cells #[.int .u8 113] 5 (1, 2))) (.slice (some ⟨w9.heap.size, 0, none⟩) 1 1) [113] := bytes_const w9 5 [113] (1, 2) (by decide)
  have hv9 : ∀ k, At (.slice (some ⟨w9.heap.size, 0, none⟩) 1 1) k → ¬ F9 k := fun k hk hF => by have := L9.at_.lt k hF; have := at_of hk; omega
  have cW9 := Lib.hid (lvWrite M9 (by rw [← h5]; decide +kernel) 1 [113] _ hB9 hv9)
  clear M9 hB9 hv9
  go_wp2_with fail
  refine cW9.out.mono ?_
  clear cW9
  rintro en w10 ⟨rfl, F10, L10, k10⟩
  rw [e6] at L10
  have Ax := (Ax.keep (Kp.non hA9)).keep k10
  have Ay := (Ay.keep (Kp.non hA9)).keep k10
  have Az := (Az.keep (Kp.non hA9)).keep k10
  rw [rv.1]
  have cF := Lib.hid (lvFlush L10 (by rw [← h6]; decide +kernel))
  go_wp2_with fail
  refine cF.out.mono ?_
  clear cF
  rintro en w11 ⟨rfl, F11, L11, k11⟩
  rw [e7] at L11
  rw [rv.2.1]
  have Ax := Ax.keep k11
  have Ay := Ay.keep k11
  have Az := Az.keep k11
  have cR4 := Lib.hid (lvRead L11 (by rw [← h7]; decide +kernel) 1)
  rw [rv.2.2.1] at cR4
  go_wp2_with fail
  refine cR4.out.mono ?_
  clear cR4
  rintro en w12 ⟨vq, rfl, -, L12, u12⟩
  have Ax := Ax.keep (Kp.non u12)
  have Ay := Ay.keep (Kp.non u12)
  have Az := Az.keep (Kp.non u12)
  have cC2 := Lib.hid (lvCrash L12 (by rw [← h7]; decide +kernel) (.slice none 0 0) [] (Has.nil _ _) (fun _ k hk => by simp [At, Value.ownBlock] at hk))
  go_wp2_with fail
  refine cC2.out.mono ?_
  clear cC2
  rintro en w13 ⟨rfl, F13, L13, k13⟩
  rw [e8] at L13
  have Ax := Ax.keep k13
  have Ay := Ay.keep k13
  have Az := Az.keep k13
  have cR5 := Lib.hid (lvRead L13 (by rw [← h8]; decide +kernel) 1)
  rw [rv.2.2.2] at cR5
  go_wp2_with fail
  refine cR5.out.mono ?_
  clear cR5
  rintro en w14 ⟨vw, rfl, Aw, L14, u14⟩
  have Ax := Ax.keep (Kp.non u14)
  have Ay := Ay.keep (Kp.non u14)
  have Az := Az.keep (Kp.non u14)
  obtain ⟨gw, ow, cw, rfl⟩ := sector_at Aw rw8.2 rw8.1
  have x0 : w14.cell? ⟨gx, ox, none⟩ = some (.int .u8 98) := sector_0 Ax.has rx.2 rx.1
  have y0 : w14.cell? ⟨gy, oy, none⟩ = some (.int .u8 97) := sector_0 Ay.has ry.2 ry.1
  have z0 : w14.cell? ⟨gz, oz, none⟩ = some (.int .u8 99) := sector_0 Az.has rz.2 rz.1
  have q0 : w14.cell? ⟨gw, ow, none⟩ = some (.int .u8 99) := sector_0 Aw.has rw8.2 rw8.1
  have hU := L14.upd
  clear Ax Ay Az Aw L1 L2 L3 L4 L5 L6 L7 L8 L9 L10 L11 L12 L13 L14
  go_wp2_with fail
  go_ret
  exact ⟨rfl, hU⟩
end Go.Proofs.Ytgkiglodhhlnmaa
