/- The reference point: a disk lives. -/
import Derived.Test.YtfjcjppfihafgaaMBlM
import Derived.Lib.SlBytesConst
namespace Go.Proofs.Ytfjcjppfihafgaa
open Go.RowKit Go.Amb Go.Shelf
set_option linter.unusedVariables false
set_option linter.unusedSimpArgs false
set_option maxRecDepth 100000
theorem bytes_at {w : World} {v : Value} {s : List UInt8} (h : Bytes w v s) (hs : 0 < s.length) : ∃ g off cap, v = .slice (some ⟨g, off, none⟩) s.length cap ∧ s.length ≤ cap ∧ cap ≤ maxLen ∧ ∀ j (hj : j < s.length), w.cell? ⟨g, off + j, none⟩ = some (.int .u8 (s[j].toNat : Int)) := by
  obtain ⟨_, a, c, rfl, h1, h2, h3⟩ := h
  obtain ⟨g, off, rfl, hc⟩ := h3.resolve_left (by omega)
  exact ⟨g, off, c, rfl, h1, h2, fun j hj => hc j _ ((bc_get s j _).2 ⟨hj, rfl⟩)⟩
theorem bytes_const (w : World) (e : TypeId) (l : List UInt8) (m : Nat × Nat) (h : l.length ≤ maxLen) : Bytes (w.alloc (.cells (bc l).toArray e m)) (.slice (some ⟨w.heap.size, 0, none⟩) l.length l.length) l :=
  ⟨by rw [bc_length, Nat.mul_one], _, _, rfl, Nat.le_refl _, h, .inr ⟨w.heap.size, 0, rfl, fun j u hj => by rw [Nat.zero_add, World.cell?_alloc_mark]; simpa using hj⟩⟩
/-- A sector's bytes as a slice: its form, and its first byte. -/
theorem sector_at {w : World} {F : Nat → Prop} {v : Value} {s : List UInt8} {x : UInt8} (h : Apart w F v s) (hl : s.length = 128) (hx : s[0]? = some x) : ∃ g off c, v = .slice (some ⟨g, off, none⟩) 128 c := by
  obtain ⟨g, off, c, rfl, -⟩ := bytes_at h.has (by omega)
  rw [hl]; exact ⟨g, off, c, rfl⟩
theorem sector_0 {w : World} {g off c : Nat} {s : List UInt8} {x : UInt8} (h : Bytes w (.slice (some ⟨g, off, none⟩) 128 c) s) (hl : s.length = 128) (hx : s[0]? = some x) : w.cell? ⟨g, off, none⟩ = some (.int .u8 (x.toNat : Int)) := by
  obtain ⟨g', off', c', h1, -, -, hc⟩ := bytes_at h (by omega)
  injection h1 with h1
  injection h1 with h1
  injection h1 with h1 h2
  subst h1 h2
  have := hc 0 (by omega)
  rw [Nat.add_zero] at this
  rw [this]
  rw [List.getElem?_eq_getElem (by omega)] at hx
  injection hx with hx
  rw [hx]
end Go.Proofs.Ytfjcjppfihafgaa
