/- An alloc of the run's own; the walk over ambrylaw07.lives. -/
import Derived.Test.YteeppclnmjlcbaaAW
namespace Go.Proofs.Yteeppclnmjlcbaa
open Go.RowKit Go.Amb
set_option linter.unusedVariables false

/-- An alloc that was made since w0. -/
structure Ours (w0 w : World) (r g n B : Nat) : Prop where
  at_ : AllocAt w r g n B
  upd : Upd Non w0 w
  own : w0.heap.size ≤ g
  own' : w0.heap.size ≤ r
theorem Ours.next {w0 w w' : World} {r g n B B' : Nat} (h : Ours w0 w r g n B) (hA : AllocAt w' r g n B') (hu : Upd (fun j => j = g) w w') : Ours w0 w' r g n B' :=
  ⟨hA, h.upd.trans hu fun j hj e => by have := h.own; omega, h.own, h.own'⟩
theorem Ours.non {w0 w w' : World} {r g n B : Nat} (h : Ours w0 w r g n B) (hu : Upd Non w w') : Ours w0 w' r g n B :=
  ⟨h.at_.non hu, h.upd.trans hu fun _ _ h => h, h.own, h.own'⟩
theorem oTake {w0 w : World} {r g n B : Nat} (h : Ours w0 w r g n B) (k : Int) (hk : k < 9223372036854775808) : Calls Try.prog 12 #[.pointer (some ⟨r, 0, none⟩), .int .i64 k] w (fun e w' => e = .returned (.tuple #[.int .i64 (takeV B n k).1, .int .i64 (takeV B n k).2.1]) ∧ Ours w0 w' r g n (takeV B n k).2.2 ∧ Upd (fun j => j = g) w w') :=
  (aTake r g n B k w h.at_ hk).mono fun e w' ⟨h1, h2, h3⟩ => ⟨h1, h.next h2 h3, h3⟩
theorem oClaim {w0 w : World} {r g n B : Nat} (h : Ours w0 w r g n B) (i : Int) : Calls Try.prog 22 #[.pointer (some ⟨r, 0, none⟩), .int .i64 i] w (fun e w' => e = .returned (.int .i64 (claimE B n i)) ∧ Ours w0 w' r g n (claimB B n i) ∧ Upd (fun j => j = g) w w') :=
  (aClaim r g n B i w h.at_).mono fun e w' ⟨h1, h2, h3⟩ => ⟨h1, h.next h2 h3, h3⟩
theorem oGive {w0 w : World} {r g n B : Nat} (h : Ours w0 w r g n B) (i k : Int) (hi : -9223372036854775808 ≤ i ∧ i < 9223372036854775808) (hk : k < 9223372036854775808) : Calls Try.prog 14 #[.pointer (some ⟨r, 0, none⟩), .int .i64 i, .int .i64 k] w (fun e w' => e = .returned (.int .i64 (giveV B n i k).1) ∧ Ours w0 w' r g n (giveV B n i k).2 ∧ Upd (fun j => j = g) w w') :=
  (aGive r g n B i k w h.at_ hi hk).mono fun e w' ⟨h1, h2, h3⟩ => ⟨h1, h.next h2 h3, h3⟩
def rows2 : List (Nat × Nat) := [(1, 1), (5, 1)]
set_option maxRecDepth 100000 in
set_option maxHeartbeats 4000000 in
theorem lives07 (w : World) : Calls Try.prog 9 #[] w (Ret (.bool true) w) := by
  have e1 : Hid (takeV 0 6 2 = (0, 0, 3)) := Lib.hid (by decide +kernel)
  have e2 : Hid (takeV 3 6 3 = (2, 0, 31)) := Lib.hid (by decide +kernel)
  have e3 : Hid (giveV 31 6 0 2 = (0, 28)) := Lib.hid (by decide +kernel)
  have e4 : Hid (takeV 28 6 1 = (0, 0, 29)) := Lib.hid (by decide +kernel)
  have e5 : Hid (takeV 29 6 2 = (0, 10, 29)) := Lib.hid (by decide +kernel)
  have e6 : Hid (rowsN 29 6 = rows2) := Lib.hid (by decide +kernel)
  have e7 : Hid (giveV 29 6 1 1 = (7, 29)) := Lib.hid (by decide +kernel)
  have e8 : Hid (6 - popc 6 29 = 2) := Lib.hid (by decide +kernel)
  go_enter Try.func9, Try.ntmps9
  go_wp2_with fail
  refine (aNew 6 w (by omega)).mono ?_
  rintro e w1 ⟨r, g, rfl, hA, hu, hr, hg⟩
  have hO : Ours w w1 r g 6 0 := ⟨hA, hu, hg, hr⟩
  clear hA hu hr hg
  go_wp2_with fail
  refine (oTake hO 2 (by omega)).mono ?_
  rintro e w2 ⟨rfl, hO2, -⟩
  rw [e1.out] at hO2 ⊢
  clear hO
  go_wp2_with fail
  refine (oTake hO2 3 (by omega)).mono ?_
  rintro e w3 ⟨rfl, hO3, -⟩
  rw [e2.out] at hO3 ⊢
  clear hO2
  go_wp2_with fail
  refine (oGive hO3 0 2 (by omega) (by omega)).mono ?_
  rintro e w4 ⟨rfl, hO4, -⟩
  rw [e3.out] at hO4 ⊢
  clear hO3
  go_wp2_with fail
  refine (oTake hO4 1 (by omega)).mono ?_
  rintro e w5 ⟨rfl, hO5, -⟩
  rw [e4.out] at hO5 ⊢
  clear hO4
  go_wp2_with fail
  refine (oTake hO5 2 (by omega)).mono ?_
  rintro e w6 ⟨rfl, hO6, -⟩
  rw [e5.out] at hO6 ⊢
  clear hO5
  go_wp2_with fail
  refine (aRows r g 6 29 _ hO6.at_).mono ?_
  rintro e w7 ⟨v, rfl, hR, hu7, hf⟩
  have hO7 := hO6.non hu7
  rw [e6.out] at hR
  obtain ⟨av, cv, hv, -⟩ := rows_at hR
  subst hv
  clear hf hu7 hO6
  have hR2 := Lib.hid (hR.non (Upd.alloc Non w7 (.cells (rc rows2).toArray 28)))
  have hR3 := Lib.hid (has_new w7 (rc rows2) 28 2 2 (by rw [rc_length]; rfl) (by unfold maxLen; omega))
  clear hR
  go_wp2_with fail
  refine (refSame _ _ rows2 rows2 _ hR2.out hR3.out (by simp [rows2])).mono ?_
  rintro e w8 ⟨rfl, hu8⟩
  have hO8 := (hO7.non (Upd.alloc Non w7 _)).non hu8
  rw [show decide (rows2 = rows2) = true by simp]
  clear hO7 hu8 hR2 hR3
  go_wp2_with fail
  refine (oGive hO8 1 1 (by omega) (by omega)).mono ?_
  rintro e w9 ⟨rfl, hO9, -⟩
  rw [e7.out] at hO9 ⊢
  clear hO8
  go_wp2_with fail
  refine (aFree r g 6 29 _ hO9.at_).mono ?_
  rintro e w10 ⟨rfl, hu10⟩
  rw [e8.out]
  have hU := (hO9.non hu10).upd
  clear hO9 hu10
  go_wp2_with fail
  go_ret
  exact ⟨rfl, hU⟩
end Go.Proofs.Yteeppclnmjlcbaa
