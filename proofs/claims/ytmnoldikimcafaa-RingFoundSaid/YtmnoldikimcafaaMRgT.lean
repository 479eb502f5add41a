/- A slice of texts; a ring lets all go. -/
import Derived.Test.YtmnoldikimcafaaMRgM
namespace Go.Proofs.Ytmnoldikimcafaa
open Go.RowKit Go.Amb Go.Shelf
set_option linter.unusedVariables false
set_option linter.unusedSimpArgs false
set_option maxRecDepth 100000
/-- Texts as cells. -/
def tc (l : List (List UInt8)) : List Value := l.map fun s => .string ⟨s.toArray⟩
abbrev TxtsAt (w : World) (v : Value) (l : List (List UInt8)) : Prop := Has w 1 v l.length (tc l)
theorem txts_at {w : World} {v : Value} {l : List (List UInt8)} (h : TxtsAt w v l) : ∃ a c, v = .slice a l.length c ∧ ∀ k (hk : k < l.length), ∃ g off, a = some ⟨g, off, none⟩ ∧ w.cell? ⟨g, off + k, none⟩ = some (.string ⟨l[k].toArray⟩) := by
  obtain ⟨_, a, c, rfl, _, _, h3⟩ := h
  refine ⟨a, c, rfl, fun k hk => ?_⟩
  rcases h3 with h3 | ⟨g, off, rfl, hc⟩
  · omega
  · exact ⟨g, off, rfl, hc k _ (by unfold tc; rw [List.getElem?_map, List.getElem?_eq_getElem hk]; rfl)⟩
section
variable {w0 w w' : World} {R D : Nat} {F G : Nat → Prop} {d : Dk} {r : Rn}
theorem rvTrunc (h : Rv w0 w R D F G d r) : Calls Try.prog 17 #[.pointer (some ⟨R, 0, none⟩), .int .i64 r.nx] w (fun en w' => en = .returned (.int .i64 0) ∧ ∃ G', Rv w0 w' R D F G' d (gone r)) :=
  (lTruncNext h.ring).mono fun en w' ⟨h1, G', h2, h3⟩ => by
    have hz := h.disk.upd.size
    have hlt := h.disk.at_.lt
    refine ⟨h1, G', ⟨⟨h.disk.at_.upd h3.upd h.apart, h.disk.upd.trans h3.upd fun j hj hk => by have := h.ownG j hk; omega, h.disk.own⟩, h2, fun k hF hG => ?_, fun k hG => ?_⟩⟩
    · rcases h3.own k hG with h' | h'
      · exact h.apart k hF h'
      · have := hlt k hF; omega
    · rcases h3.own k hG with h' | h'
      · exact h.ownG k h'
      · omega
end
/-- A ring of RingRoom's, behind i records. -/
structure RoomOk (d : Dk) (r : Rn) (i : Nat) : Prop where
  fr : r.fr = 0
  cn : r.cn = 20
  ep : r.ep = 1
  s5 : 5 ≤ r.st
  sn : r.st ≤ r.nx
  rm : r.nx - r.st ≤ 20
  nx : r.nx ≤ 5 + 20 * i
  l : r.L.length ≤ i
  dd : d.dd = false
  f : d.f = -1
  k : d.K.length = 20
  p : d.P.length ≤ 20 * i
theorem RoomOk.fit {d : Dk} {r : Rn} {i : Nat} (h : RoomOk d r i) (hi : i ≤ 100) : d.P.length + 200 ≤ 1000000 ∧ d.dd = false ∧ d.f = -1 ∧ r.fr + r.cn ≤ d.K.length ∧ r.L.length + 1 ≤ 100000 := by
  refine ⟨by have := h.p; omega, h.dd, h.f, by rw [h.fr, h.cn, h.k]; omega, by have := h.l; omega⟩
theorem RoomOk.cut {d : Dk} {r : Rn} {i : Nat} (h : RoomOk d r i) (hi : i ≤ 100) (s : List UInt8) (hs : s.length ≤ 16384) : cutOk r.ep r.nx s := by
  have h1 := h.s5
  have h2 := h.sn
  have h3 := h.nx
  have h4 : pieceN s ≤ 152 := by unfold pieceN; omega
  unfold cutOk
  rw [h.ep]
  omega
theorem RoomOk.app {d : Dk} {r : Rn} {i : Nat} (h : RoomOk d r i) (hi : i ≤ 100) (s : List UInt8) (hs : s.length ≤ 16384) (hr : ¬ (20 : Int) - (r.nx - r.st) < pieceN s) : appE r s = 0 ∧ RoomOk (appDs d r s) (appRs r s) (i + 1) ∧ (appRs r s).nx = r.nx + pieceN s ∧ (appRs r s).st = r.st := by
  have hc := h.cut hi s hs
  have e : appE r s = 0 := by unfold appE; rw [if_pos hc, h.cn, if_neg (by simpa using hr)]
  unfold appDs appRs
  rw [if_pos e, if_pos e]
  have h1 := h.s5
  have h2 := h.sn
  have h3 := h.nx
  have h4 := pieceN_pos s
  refine ⟨e, ⟨h.fr, h.cn, h.ep, h.s5, ?_, ?_, ?_, ?_, h.dd, h.f, h.k, ?_⟩, rfl, rfl⟩
  · show r.st ≤ r.nx + pieceN s; omega
  · show r.nx + pieceN s - r.st ≤ 20; omega
  · show r.nx + pieceN s ≤ 5 + 20 * ((i + 1 : Nat) : Int); omega
  · show (r.L ++ [_]).length ≤ i + 1; have := h.l; simp; omega
  · show (d.P ++ wrP r (cutS r.ep r.nx s)).length ≤ 20 * (i + 1)
    unfold wrP; have := h.p; rw [List.length_append, List.length_map, cutS_length]; omega
theorem RoomOk.full {d : Dk} {r : Rn} {i : Nat} (h : RoomOk d r i) (hi : i ≤ 100) (s : List UInt8) (hs : s.length ≤ 16384) (hr : (20 : Int) - (r.nx - r.st) < pieceN s) : appE r s = 11 ∧ appDs d r s = d ∧ appRs r s = r := by
  have hc := h.cut hi s hs
  have e : appE r s = 11 := by unfold appE; rw [if_pos hc, h.cn, if_pos (by simpa using hr)]
  unfold appDs appRs
  rw [e]
  exact ⟨rfl, rfl, rfl⟩
theorem RoomOk.gone {d : Dk} {r : Rn} {i : Nat} (h : RoomOk d r i) : RoomOk d (gone r) (i + 1) := by
  have h1 := h.s5
  have h2 := h.sn
  have h3 := h.nx
  refine ⟨h.fr, h.cn, h.ep, ?_, Int.le_refl _, ?_, ?_, Nat.zero_le _, h.dd, h.f, h.k, by have := h.p; omega⟩
  · show 5 ≤ r.nx; omega
  · show r.nx - r.nx ≤ 20; omega
  · show r.nx ≤ 5 + 20 * ((i + 1 : Nat) : Int); omega
theorem room_open : RoomOk (Dk.new 20) (openS (Dk.new 20) 0 20 5 0) 0 ∧ (openS (Dk.new 20) 0 20 5 0).Ok ∧ 0 ≤ youngS (Dk.new 20) 0 0 20 ∧ youngS (Dk.new 20) 0 0 20 < 2147483647 := by
  refine ⟨⟨by decide +kernel, by decide +kernel, by decide +kernel, by decide +kernel, by decide +kernel, by decide +kernel, by decide +kernel, by decide +kernel, by decide +kernel, by decide +kernel, by decide +kernel, by decide +kernel⟩, okOf _ (by decide +kernel), by decide +kernel, by decide +kernel⟩
end Go.Proofs.Ytmnoldikimcafaa
