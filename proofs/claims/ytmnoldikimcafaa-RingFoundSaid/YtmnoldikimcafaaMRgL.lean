/- A ring and its disk, the call's own, from call to call. -/
import Derived.Test.YtmnoldikimcafaaMRgH
import Derived.Test.YtmnoldikimcafaaMBlU
namespace Go.Proofs.Ytmnoldikimcafaa
open Go.RowKit Go.Amb Go.Shelf
set_option linter.unusedVariables false
set_option linter.unusedSimpArgs false
set_option maxRecDepth 100000
structure Rv (w0 w : World) (R D : Nat) (F G : Nat → Prop) (d : Dk) (r : Rn) : Prop where
  disk : Lv w0 D w F d
  ring : RingAt w R D G r
  apart : ∀ k, F k → ¬ G k
  ownG : ∀ k, G k → w0.heap.size ≤ k
def appDs (d : Dk) (r : Rn) (s : List UInt8) : Dk := if appE r s = 0 then appD d r (cutS r.ep r.nx s) else d
def appRs (r : Rn) (s : List UInt8) : Rn := if appE r s = 0 then appR r s else r
section
variable {w0 w w' : World} {R D : Nat} {F G : Nat → Prop} {d : Dk} {r : Rn}
theorem Rv.non (h : Rv w0 w R D F G d r) (hu : Upd Non w w') : Rv w0 w' R D F G d r := ⟨h.disk.non hu, h.ring.non hu, h.apart, h.ownG⟩
theorem rvOpen (h : Lv w0 D w F d) (hn : d.P.length ≤ 1000000) (hdd : d.dd = false) (fr cn : Nat) (st e : Int) (h2 : 2 ≤ cn) (hfc : fr + cn ≤ d.K.length) (hs0 : 0 ≤ st) (hs1 : st ≤ 1152921504606846976) (he0 : 0 ≤ e)
    (he1 : e < 2147483647) (hy0 : 0 ≤ youngS d fr e cn) (hy1 : youngS d fr e cn < 2147483647) (hok : (openS d fr cn st e).Ok) :
    Calls Try.prog 8 #[.pointer (some ⟨D, 0, none⟩), .int .i64 (fr : Int), .int .i64 (cn : Int), .int .i64 st, .int .i64 e] w
      (fun en w' => ∃ R G, en = .returned (.tuple #[.pointer (some ⟨R, 0, none⟩), .int .i64 0]) ∧ Rv w0 w' R D F G d (openS d fr cn st e) ∧ Upd Non w w' ∧ ∀ k, G k → w.heap.size ≤ k) :=
  (lOpen h.at_ hn hdd fr cn st e h2 hfc hs0 hs1 he0 he1 hy0 hy1 hok).mono fun en w' ⟨R, G, h1, h2, h3, h4⟩ =>
    ⟨R, G, h1, ⟨h.non h3, h2, fun k hF hG => by have := h.at_.lt k hF; have := h4 k hG; omega, fun k hG => Nat.le_trans h.upd.size (h4 k hG)⟩, h3, h4⟩
theorem rvAppend (h : Rv w0 w R D F G d r) (hn : d.P.length + 200 ≤ 1000000) (hdd : d.dd = false) (hf : d.f = -1) (hfc : r.fr + r.cn ≤ d.K.length) (hLl : r.L.length + 1 ≤ 100000) (s : List UInt8) :
    Calls Try.prog 9 #[.pointer (some ⟨R, 0, none⟩), .string ⟨s.toArray⟩] w (fun en w' => en = .returned (.int .i64 (appE r s)) ∧ ∃ F' G', Rv w0 w' R D F' G' (appDs d r s) (appRs r s) ∧ Kp w (fun k => F k ∨ G k) w' (fun k => F' k ∨ G' k)) := by
  have key : ∀ (d' : Dk) (r' : Rn) en w', RgTo w R D F G d' r' (.int .i64 (appE r s)) en w' → en = .returned (.int .i64 (appE r s)) ∧ ∃ F' G', Rv w0 w' R D F' G' d' r' ∧ Kp w (fun k => F k ∨ G k) w' (fun k => F' k ∨ G' k) := by
    rintro d' r' en w' ⟨h1, F', G', h2, h3, h4, h5⟩
    have hz := h.disk.upd.size
    have hFG : ∀ k, F k ∨ G k → w0.heap.size ≤ k := fun k hk => hk.elim (h.disk.own k) (h.ownG k)
    have own : ∀ k, F' k ∨ G' k → w0.heap.size ≤ k := fun k hk => (h5.own k hk).elim (hFG k) fun h => by omega
    exact ⟨h1, F', G', ⟨⟨h2, h.disk.upd.trans h5.upd fun j hj hk => by have := hFG j hk; omega, fun k hk => own k (.inl hk)⟩, h3, h4, fun k hk => own k (.inr hk)⟩, h5⟩
  unfold appDs appRs
  by_cases hc : cutOk r.ep r.nx s
  · by_cases hr : (r.cn : Int) - (r.nx - r.st) < pieceN s
    · have e : appE r s = 11 := by unfold appE; rw [if_pos hc, if_pos hr]
      rw [if_neg (by rw [e]; decide), if_neg (by rw [e]; decide)]
      refine (lAppendFull h.ring h.disk.at_ h.apart s hc hr).mono fun en w' hh => key _ _ _ _ ?_
      rw [e]; exact hh
    · have e : appE r s = 0 := by unfold appE; rw [if_pos hc, if_neg hr]
      rw [if_pos e, if_pos e]
      refine (lAppendOk h.ring h.disk.at_ h.apart hn hdd hf hfc hLl s hc hr).mono fun en w' hh => key _ _ _ _ ?_
      rw [e]; exact hh
  · have e : appE r s ≠ 0 := by unfold appE; rw [if_neg hc]; split <;> decide
    rw [if_neg e, if_neg e]
    exact (lAppendNo h.ring h.disk.at_ h.apart s hc).mono fun en w' hh => key _ _ _ _ hh
theorem rvSync (h : Rv w0 w R D F G d r) (hn : d.P.length ≤ 1000000) :
    Calls Try.prog 10 #[.pointer (some ⟨R, 0, none⟩)] w (fun en w' => en = .returned (.int .i64 d.flush.2) ∧ ∃ F', Rv w0 w' R D F' G d.flush.1 r ∧ Kp w F w' F') :=
  (lSync h.ring h.disk.at_ hn).mono fun en w' hs => by
    obtain ⟨h1, F', hL, hk⟩ := h.disk.step hs
    have hG := h.ring.lt
    exact ⟨h1, F', ⟨hL, h.ring.upd hk.upd fun k hk hF => h.apart k hF hk, fun k hF hGk => (hk.own k hF).elim (fun h' => h.apart k h' hGk) fun h' => by have := hG k hGk; omega, h.ownG⟩, hk⟩
end
end Go.Proofs.Ytmnoldikimcafaa

namespace Go.Proofs.Ytmnoldikimcafaa
open Go.RowKit Go.Amb
set_option linter.unusedVariables false
set_option maxRecDepth 100000
def e0 : Rn := openS (Dk.new 5) 1 4 0 0
def e1 : Rn := appRs e0 [97]
def e2 : Rn := appRs e1 [98]
def e3 : Rn := appRs e2 [99]
def f1 : Dk := appDs (Dk.new 5) e0 [97]
def f2 : Dk := appDs f1 e1 [98]
def f3 : Dk := f2.flush.1
def f4 : Dk := appDs f3 e2 [99]
def fA : Dk := f4.crash []
def fB : Dk := f4.crash [0]
def eA : Rn := openS fA 1 4 0 0
def eB : Rn := openS fB 1 4 0 0
/-- What a disk and a ring on it must be for an Append. -/
structure Fit (d : Dk) (r : Rn) : Prop where
  n : d.P.length + 200 ≤ 1000000
  dd : d.dd = false
  f : d.f = -1
  fc : r.fr + r.cn ≤ d.K.length
  l : r.L.length + 1 ≤ 100000
theorem fit0 : Fit (Dk.new 5) e0 := ⟨by decide +kernel, by decide +kernel, by decide +kernel, by decide +kernel, by decide +kernel⟩
theorem fit1 : Fit f1 e1 := ⟨by decide +kernel, by decide +kernel, by decide +kernel, by decide +kernel, by decide +kernel⟩
theorem fit2 : Fit f3 e2 := ⟨by decide +kernel, by decide +kernel, by decide +kernel, by decide +kernel, by decide +kernel⟩
theorem fitB : Fit fB eB := ⟨by decide +kernel, by decide +kernel, by decide +kernel, by decide +kernel, by decide +kernel⟩
theorem okOf (r : Rn) (h : r.fr ≤ 16384 ∧ 2 ≤ r.cn ∧ r.cn ≤ 16384 ∧ 0 ≤ r.st ∧ r.st ≤ r.nx ∧ r.nx ≤ 1152921504607000000 ∧ 0 ≤ r.ep ∧ r.ep ≤ 2147483647 ∧ r.L.length ≤ 100000) : r.Ok := ⟨h.1, h.2.1, h.2.2.1, h.2.2.2.1, h.2.2.2.2.1, h.2.2.2.2.2.1, h.2.2.2.2.2.2.1, h.2.2.2.2.2.2.2.1, h.2.2.2.2.2.2.2.2⟩
theorem ok0 : (openS (Dk.new 5) 1 4 0 0).Ok := okOf _ (by decide +kernel)
theorem okA : (openS fA 1 4 0 0).Ok := okOf _ (by decide +kernel)
theorem okB : (openS fB 1 4 0 0).Ok := okOf _ (by decide +kernel)
theorem y0 : 0 ≤ youngS (Dk.new 5) 1 0 4 ∧ youngS (Dk.new 5) 1 0 4 < 2147483647 := by decide +kernel
theorem yA : 0 ≤ youngS fA 1 0 4 ∧ youngS fA 1 0 4 < 2147483647 := by decide +kernel
theorem yB : 0 ≤ youngS fB 1 0 4 ∧ youngS fB 1 0 4 < 2147483647 := by decide +kernel
theorem pn : f2.P.length ≤ 1000000 ∧ f4.P.length ≤ 1000000 ∧ fA.P.length ≤ 1000000 ∧ fB.P.length ≤ 1000000 ∧ f2.flush.2 = 0 ∧ fA.dd = false ∧ fB.dd = false ∧ 1 + 4 ≤ fA.K.length ∧ 1 + 4 ≤ fB.K.length := by decide +kernel
theorem vA : eA.L.length = 2 ∧ eA.nx = 2 ∧ eA.ep = 2 := by decide +kernel
theorem vB : eB.L.length = 3 ∧ appE eB (List.replicate 300 0) = 11 ∧ (eB.cn : Int) - (eB.nx - eB.st) = 1 := by decide +kernel
end Go.Proofs.Ytmnoldikimcafaa
