/- The walks over package alloc: set. -/
import Derived.Test.YteeppclnmjlcbaaAE
namespace Go.Proofs.Yteeppclnmjlcbaa
open Go.RowKit Go.Amb
set_option linter.unusedVariables false

theorem AllocAt.put {w : World} {r g n B i : Nat} (h : AllocAt w r g n B) (hi : i < n) (b : Bool) :
    AllocAt (w.setCell ⟨g, i / 64, none⟩ (.int .u64 (putN (wordN B (i / 64)) (i % 64) b : Nat))) r g n (putN B i b) := by
  have hu := Upd.setCell (S := fun k => k = g) w (a := ⟨g, i / 64, none⟩) rfl (.int .u64 (putN (wordN B (i / 64)) (i % 64) b : Nat))
  obtain ⟨c, h1, h2, h3⟩ := h.cap
  refine ⟨h.pos, h.most, putN_lt h.bits hi b, h.apart, hu.cell h.size h.apart, ⟨c, h1, h2, hu.cell h3 h.apart⟩, fun j hj => ?_, by have := hu.size; have := h.live; omega⟩
  refine ⟨?_, by rw [World.frozen?_setCell]; exact (h.word j hj).2⟩
  by_cases e : j = i / 64
  · subst e
    rw [putN_word]
    exact World.cell?_setCell_same' _ _ _ (by rw [(h.word _ hj).1]; rfl)
  · rw [putN_else _ _ _ _ e]
    refine Eq.trans ?_ (h.word j hj).1
    exact World.cell?_setCell_other _ _ _ _ (fun q => e (by injection q with _ q _; exact q.symm))
/-- So many pages' bits. -/
def setN : Nat → Nat → Nat → Bool → Nat
  | B, _, 0, _ => B
  | B, i, k + 1, b => setN (putN B i b) (i + 1) k b
set_option maxHeartbeats 2000000 in
theorem aSet (r g n B i k : Nat) (b : Bool) (w : World) (h : AllocAt w r g n B) (hi : i + k ≤ n) : Calls Try.prog 27 #[.pointer (some ⟨r, 0, none⟩), .int .i64 (i : Int), .int .i64 (k : Int), .bool b] w (fun e w' => e = .returned (.tuple #[]) ∧ AllocAt w' r g n (setN B i k b) ∧ Upd (fun j => j = g) w w') := by
  have hm := h.most
  have hik : IntKind.i64.wrap ((i : Int) + (k : Int)) = ((i + k : Nat) : Int) := IntWalk.i64_in _ ⟨by omega, by omega⟩
  go_enter Try.func27, Try.ntmps27
  go_wp2_with fail
  go_loopw [8] (fun pv wr => ∃ d B', pv = .int .i64 ((i + d : Nat) : Int) ∧ d ≤ k ∧ AllocAt wr r g n B' ∧ setN B' (i + d) (k - d) b = setN B i k b ∧ Upd (fun j => j = g) w wr) (fun pv _ => i + k - (intOf pv).toNat)
  case atStart => exact ⟨0, B, rfl, by omega, h, rfl, Upd.refl _ _⟩
  case round =>
    obtain ⟨d, B', rfl, hd, hA, hs, hu⟩ := hrel
    by_cases hdk : d < k
    · have hst : setN B' (i + d) (k - d) b = setN (putN B' (i + d) b) (i + d + 1) (k - d - 1) b := by
        obtain ⟨m, hm⟩ : ∃ m, k - d = m + 1 := ⟨k - d - 1, by omega⟩
        rw [hm]; rfl
      have hp : i + d < n := by omega
      have hlt : ((i + d : Nat) : Int) < ((i + k : Nat) : Int) := by omega
      have hput := fun (w1 : World) (hu : Upd Non wr w1) => (hA.non hu).put hp b
      have hb := Lib.hid (fun w => aBit (i + d) w (by omega))
      obtain ⟨c, hc, hcm, h1⟩ := hA.cap
      have hj : (i + d) / 64 < (n + 63) / 64 := by omega
      obtain ⟨hw, hf⟩ := hA.word _ hj
      have hxl := wordN_lt B' ((i + d) / 64)
      have hpow : 2 ^ ((i + d) % 64) < 2 ^ 64 := Nat.pow_lt_pow_right (by decide) (Nat.mod_lt (i + d) (by decide))
      rw [show 2 ^ 64 = 18446744073709551616 from rfl] at hpow
      have hor := u64_or' _ _ hxl hpow
      have hno := u64_not _ _ hxl hpow
      have ez : putN (wordN B' ((i + d) / 64)) ((i + d) % 64) b = if b then wordN B' ((i + d) / 64) ||| 2 ^ ((i + d) % 64) else wordN B' ((i + d) / 64) ^^^ (wordN B' ((i + d) / 64) &&& 2 ^ ((i + d) % 64)) := rfl
      rw [ez] at hput
      have hj0 : (0 : Int) ≤ (((i + d) / 64 : Nat) : Int) := by omega
      have hj1 : (((i + d) / 64 : Nat) : Int) < (((n + 63) / 64 : Nat) : Int) := by omega
      have hl := hA.live
      generalize wordN B' ((i + d) / 64) = x at *
      generalize 2 ^ ((i + d) % 64) = y at *
      generalize (i + d) / 64 = j at *
      generalize (n + 63) / 64 = m at *
      generalize hpe : i + d = p at *
      replace hpe := Lib.hid hpe
      replace hput := Lib.hid hput
      replace hst := Lib.hid hst
      replace hs := Lib.hid hs
      clear ez
      cases b with
      | true =>
        go_wp2_with fail
        refine (hb.out _).mono ?_
        rintro e w1 ⟨rfl, hu1⟩
        have c1 := hu1.cell h1 fun h => h
        have c2 := hu1.cell hw fun h => h
        have c3 : w1.frozen? ⟨g, j, none⟩ = false := (World.frozen?_of_block (a := ⟨g, j, none⟩) (hu1.block g hl.2 fun h => h)).trans hf
        have hpu := Lib.hid (hput.out w1 hu1)
        go_wp2_with fail
        go_roundw
        case rel =>
          have hpu' : AllocAt (w1.setCell ⟨g, j, none⟩ (.int .u64 (((x ||| y) : Nat) : Int))) r g n (putN B' p true) := by
            have := hpu.out
            simpa using this
          exact ⟨d + 1, _, by have := hpe.out; go_num, by omega, hpu', by
            have h1 := hst.out
            have h2 := hs.out
            have h3 := hpe.out
            rw [show i + (d + 1) = p + 1 by omega, show k - (d + 1) = k - d - 1 by omega, ← h1, h2], (hu.trans hu1 fun _ _ h => h.elim).then_setCell (fun _ => rfl) _⟩
        case measure => have := hpe.out; simp [intOf]; omega
      | false =>
        go_wp2_with fail
        refine (hb.out _).mono ?_
        rintro e w1 ⟨rfl, hu1⟩
        have c1 := hu1.cell h1 fun h => h
        have c2 := hu1.cell hw fun h => h
        have c3 : w1.frozen? ⟨g, j, none⟩ = false := (World.frozen?_of_block (a := ⟨g, j, none⟩) (hu1.block g hl.2 fun h => h)).trans hf
        have hpu := Lib.hid (hput.out w1 hu1)
        go_wp2_with fail
        go_roundw
        case rel =>
          have hpu' : AllocAt (w1.setCell ⟨g, j, none⟩ (.int .u64 (((x ^^^ (x &&& y)) : Nat) : Int))) r g n (putN B' p false) := by
            have := hpu.out
            simpa using this
          exact ⟨d + 1, _, by have := hpe.out; go_num, by omega, hpu', by
            have h1 := hst.out
            have h2 := hs.out
            have h3 := hpe.out
            rw [show i + (d + 1) = p + 1 by omega, show k - (d + 1) = k - d - 1 by omega, ← h1, h2], (hu.trans hu1 fun _ _ h => h.elim).then_setCell (fun _ => rfl) _⟩
        case measure => have := hpe.out; simp [intOf]; omega
    · obtain rfl : d = k := by omega
      have hlt : ¬ ((i + d : Nat) : Int) < ((i + d : Nat) : Int) := by omega
      rw [Nat.sub_self] at hs
      replace hs : Hid (B' = setN B i d b) := hs
      go_wp2_with fail
      go_returns
      exact ⟨rfl, by rw [← hs.out]; exact hA, hu⟩
end Go.Proofs.Yteeppclnmjlcbaa
