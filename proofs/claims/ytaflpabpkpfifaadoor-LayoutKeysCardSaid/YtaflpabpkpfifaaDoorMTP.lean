/- The walk over ambryref02.Decode. -/
import Derived.Test.YtaflpabpkpfifaaDoorMTO
import Derived.Test.YtaflpabpkpfifaaDoorMTM
namespace Go.Proofs.YtaflpabpkpfifaaDoor
open Go.RowKit Go.Amb
set_option linter.unusedVariables false
attribute [local go_sem ↓] Go.wp_at_zero Go.wp_at_succ

theorem run_from {P : Program} (t : TypeId) (hu : P.underlying t = some .string) (s : List UInt8) (lo : Int) (l : Nat) (hl : lo = l) (h : l ≤ s.length) (w : World) :
    (Instr.slice t (.string ⟨s.toArray⟩) (some (.int .i64 lo)) none none).run P w = .ok (.string ⟨(s.drop l).toArray⟩) w := by
  subst hl
  have hz : (⟨s.toArray⟩ : ByteArray).size = s.length := by simp [ByteArray.size]
  rw [run_slice_string_l w t ⟨s.toArray⟩ hu .i64 (l : Int) (by omega) (by omega), Int.toNat_natCast, ByteArray.extract_mk, hz, List.take_of_length_le (by simp)]

set_option maxHeartbeats 1000000 in
theorem rFirst_bad (s : List UInt8) (w : World) (hs : s.length ≤ 128) (hn0 : 0 < s.length) (h2 : s[0] ≠ 2) (h3 : s[0] ≠ 3) (h4 : s[0] ≠ 4) : Calls Tryd.prog 63 #[.string ⟨s.toArray⟩] w (Ret (firstV none) w) := by
  have hsz := size_lt hn0
  have c3 := byte_is hn0 hsz 3 3 rfl false (by simp [h3])
  have c4 := byte_is hn0 hsz 4 4 rfl false (by simp [h4])
  have c2 := byte_is hn0 hsz 2 2 rfl false (by simp [h2])
  have n2 := ne_of_is c2 (u := true) rfl
  clear h2 h3 h4
  go_enter Tryd.func63, Tryd.ntmps63
  go_wp2_with fail
  go_returns
  exact ⟨rfl, (Upd.refl _ _).then_alloc _⟩

theorem rFirst (s : List UInt8) (w : World) (hs : s.length ≤ 128) (hn0 : 0 < s.length) : Calls Tryd.prog 63 #[.string ⟨s.toArray⟩] w (Ret (firstV (firstR s)) w) := by
  match s, hn0 with
  | b :: r, hn0 =>
    by_cases h34 : b = 3 ∨ b = 4
    · exact rFirst_num b r w hs h34
    · have h3 : b ≠ 3 := fun h => h34 (.inl h)
      have h4 : b ≠ 4 := fun h => h34 (.inr h)
      by_cases h2 : b = 2
      · have := rFirst_text (b :: r) w hs hn0 h2
        rw [firstR_cons, if_neg h3, if_neg h4, if_pos h2]
        exact this
      · have := rFirst_bad (b :: r) w hs hn0 h2 h3 h4
        rw [firstR_cons, if_neg h3, if_neg h4, if_neg h2]
        exact this

set_option maxRecDepth 100000 in
set_option maxHeartbeats 4000000 in
theorem rDecode (s : List UInt8) (w : World) : Calls Tryd.prog 42 #[.string ⟨s.toArray⟩] w (Decd (decR s).1 (decR s).2 w) := by
  by_cases hs : 128 < s.length
  · have hr : decR s = ([], 5) := by unfold decR; rw [if_pos hs]
    rw [hr]
    have hs' : (128 : Int) < s.length := by omega
    go_enter Tryd.func42, Tryd.ntmps42
    go_wp2_with fail
    go_ret2
    exact ⟨.slice none 0 0, rfl, Has.nil _ _, Upd.refl _ _, fun k hk => by cases hk⟩
  · have hr : Hid (decR s = match decL s with | none => ([], 4) | some m => (m, 0)) := by
      show decR s = _
      unfold decR; rw [if_neg hs]; cases decL s <;> rfl
    have hi2 := Lib.hid (@info_partM)
    have hs' : ¬ (128 : Int) < s.length := by omega
    go_enter Tryd.func42, Tryd.ntmps42
    go_wp2_with fail
    go_loopw [0, 4] (fun sv ov wr => ∃ s' xs, sv = .string ⟨s'.toArray⟩ ∧ xs.length + s'.length ≤ s.length ∧ OutP w wr ov xs ∧ Upd Non w wr ∧ ((decL s').map fun m => xs ++ m) = decL s) (fun sv _ _ => match sv with | .string b => b.size | _ => 0)
    case atStart => exact ⟨s, [], rfl, by simp, World.ownsRow_nil _ _ _ _, Upd.refl _ _, by simp⟩
    case round =>
      obtain ⟨s', xs, rfl, hlen, ho, hu, hc⟩ := hrel
      by_cases h0 : s' = []
      · subst h0
        rw [decL_nil] at hc
        have hr2 : Hid (decR s = (xs, 0)) := by have := hr.out; rw [← hc] at this; simp at this; exact this
        replace hc := Lib.hid hc
        go_wp2_with fail
        go_ret2
        exact ⟨_, by rw [hr2.out]; rfl, by rw [hr2.out]; exact has_of_owns ho, hu, fun k hk => ⟨own_ge ho hk, own_lt ho hk⟩⟩
      · have hl : 0 < s'.length := List.length_pos_iff.2 h0
        have hl' : (0 : Int) < (s'.length : Int) := by omega
        have hst := decL_step h0
        have hf := Lib.hid (fun w => rFirst s' w (by omega) hl)
        cases hx : firstR s' with
        | none =>
          rw [hx] at hst hf
          rw [hst] at hc
          have hr2 : Hid (decR s = ([], 4)) := by have := hr.out; rw [← hc] at this; exact this
          replace hc := Lib.hid hc
          replace hst := Lib.hid hst
          replace hx := Lib.hid hx
          clear h0
          go_wp2_with fail
          refine (hf.out _).mono ?_
          rintro e w3 ⟨rfl, hu3⟩
          simp only [firstV, pV]
          go_wp2_with fail
          go_ret2
          exact ⟨.slice none 0 0, by rw [hr2.out]; rfl, by rw [hr2.out]; exact Has.nil _ _, (hu.trans hu3 fun _ _ h => h).then_alloc _, fun k hk => by cases hk⟩
        | some x =>
          obtain ⟨p, k⟩ := x
          have hg := firstR_gt hx
          rw [hx] at hst hf
          simp only at hst
          rw [hst] at hc
          have hc2 : ((decL (s'.drop k)).map fun m => (xs ++ [p]) ++ m) = decL s := by rw [← hc, Option.map_map]; congr 1; funext m; simp
          have hke : ((k : Int) == 0) = false := by simp; omega
          have hsub : ∀ w, (Instr.slice 9 (.string ⟨s'.toArray⟩) (some (.int .i64 (k : Int))) none none).run Tryd.prog w = .ok (.string ⟨(s'.drop k).toArray⟩) w :=
            fun w => run_from 9 Tryd.underlying9 s' k k rfl hg.2 w
          have hdl : (s'.drop k).length + k = s'.length := by simp; omega
          generalize s'.drop k = s2 at *
          replace hc := Lib.hid hc
          replace hc2 := Lib.hid hc2
          replace hst := Lib.hid hst
          replace hx := Lib.hid hx
          clear h0
          go_wp2_with fail
          refine (hf.out _).mono ?_
          rintro e w3 ⟨rfl, hu3⟩
          simp only [firstV, pV]
          have ho3 := hu3.owns ho fun _ _ h => h
          have hU3 := hu.trans hu3 fun _ _ h => h
          have hz3 := hU3.size
          go_wp2_with (at_builtin; go_must (refine wpList_app1n rfl _ _ 74 rfl w.heap.size 81 (.agg #[.int .i64 0, .int .i64 0, .string ⟨#[]⟩]) 3 32 Tryd.underlying74 hi2.out rfl _ _ _ rfl (ho3.alloc _) [.int .i64 p.k, .int .i64 p.n, .string ⟨p.s.toArray⟩] (w3.heap.size + 1) rfl (by simp) rfl (pcs_oneM [p]) (by unfold maxLen; omega) (by omega) (by simp; omega) ?_))
          intro v4 w4 ho4 hu4 hf4
          have ho4 : OutP w w4 v4 (xs ++ [p]) := own_partsM (l' := [p]) ho4 rfl
          have hU4 : Upd Non w w4 := (hU3.then_alloc _).trans hu4 fun j hj h => absurd (own_ge ho3 h) (by omega)
          go_wp2_with fail
          go_roundw
          case rel => exact ⟨s2, xs ++ [p], rfl, by simp; omega, ho4, hU4, hc2.out⟩
          case measure => simp [ByteArray.size]; omega
end Go.Proofs.YtaflpabpkpfifaaDoor
