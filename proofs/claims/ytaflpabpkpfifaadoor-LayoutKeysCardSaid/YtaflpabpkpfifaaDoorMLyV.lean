/- The walk over layout.ReadVersion. -/
import Derived.Test.YtaflpabpkpfifaaDoorMLyB
import Derived.Test.YtaflpabpkpfifaaDoorMLibC
namespace Go.Proofs.YtaflpabpkpfifaaDoor
set_option maxRecDepth 100000
open Go.RowKit Go.Amb
set_option linter.unusedVariables false
attribute [local go_sem ↓] Go.wp_at_zero Go.wp_at_succ

def digB (c : UInt8) : Bool := decide (48 ≤ c.toNat ∧ c.toNat ≤ 57)
/-- What decimal digits tell. -/
def valL (s : Str) : Nat := s.foldl (fun n c => 10 * n + (c.toNat - 48)) 0
theorem valL_snoc (s : Str) (c : UInt8) : valL (s ++ [c]) = 10 * valL s + (c.toNat - 48) := by simp [valL]
theorem valL_from (s : Str) : ∀ (z m : Nat), z < 10 ^ m → s.all digB = true → s.foldl (fun n c => 10 * n + (c.toNat - 48)) z < 10 ^ (m + s.length) := by
  induction s with
  | nil => intro z m hz _; simpa using hz
  | cons c s ih =>
    intro z m hz h
    rw [List.all_cons, Bool.and_eq_true] at h
    have h2 : 48 ≤ c.toNat ∧ c.toNat ≤ 57 := of_decide_eq_true h.1
    rw [List.foldl_cons, List.length_cons, show m + (s.length + 1) = (m + 1) + s.length by omega]
    refine ih _ (m + 1) ?_ h.2
    rw [Nat.pow_succ]; omega
theorem valL_lt (s : Str) (h : s.all digB = true) : valL s < 10 ^ s.length := by
  have := valL_from s 0 0 (by decide) h
  simpa [valL] using this
def nullS : Str := [110, 117, 108, 108]
def verOk (s t : Str) : Prop := s.length ≤ 19 ∧ s.all digB = true ∧ valL s ≤ 1152921504606846976 ∧ s = t
instance (s t : Str) : Decidable (verOk s t) := by unfold verOk; infer_instance
/-- What version a text is; t: that number's own text. -/
def verR (s t : Str) : Int × Bool × Int := if s = nullS then (0, true, 0) else if verOk s t then ((valL s : Int), false, 0) else (0, false, 4)
theorem verR_no {s t : Str} (h1 : s ≠ nullS) (h2 : ¬ verOk s t) : verR s t = (0, false, 4) := by unfold verR; rw [if_neg h1, if_neg h2]
theorem verR_yes {s t : Str} (h1 : s ≠ nullS) (h2 : verOk s t) : verR s t = ((valL s : Int), false, 0) := by unfold verR; rw [if_neg h1, if_pos h2]
def verV (x : Int × Bool × Int) : Value := .tuple #[.int .i64 x.1, .bool x.2.1, .int .i64 x.2.2]
set_option maxHeartbeats 2000000 in
theorem yReadVersion (s t : Str) (w : World) (hIt : s.all digB = true → valL s ≤ 1152921504606846976 → ∀ w', Upd Non w w' → Calls Tryd.prog 52 #[.int .i64 (valL s)] w' (Ret (txtV t) w')) :
    Calls Tryd.prog 19 #[txtV s] w (Ret (verV (verR s t)) w) := by
  unfold txtV at *
  by_cases h1 : s = nullS
  · have hR : Hid (verR s t = (0, true, 0)) := Lib.hid (by unfold verR; rw [if_pos h1])
    subst h1
    unfold nullS at *
    go_enter Tryd.func19, Tryd.ntmps19
    go_wp2_with fail
    go_ret3
    exact ⟨by rw [hR.out]; rfl, Upd.refl _ _⟩
  have h1b : (s == [110, 117, 108, 108]) = false := by rw [beq_eq_false_iff_ne]; exact h1
  by_cases h2 : 19 < s.length
  · have hR := Lib.hid (verR_no (t := t) h1 (fun e => by have := e.1; omega))
    have h2' : (19 : Int) < (s.length : Int) := by omega
    replace h1 := Lib.hid h1
    go_enter Tryd.func19, Tryd.ntmps19
    go_wp2_with fail
    go_ret3
    exact ⟨by rw [hR.out]; rfl, Upd.refl _ _⟩
  have h2' : ¬ (19 : Int) < (s.length : Int) := by omega
  have hsl : s.length ≤ 19 := by omega
  replace h1 := Lib.hid h1
  replace hIt := Lib.hid hIt
  clear h2
  go_enter Tryd.func19, Tryd.ntmps19
  go_wp2_with (refine wpList_tobytes rfl _ 9 86 5 rfl Tryd.underlying9 Tryd.underlying86 Tryd.underlying5 s rfl (by unfold maxLen; omega) ?_)
  intro c w1 hm
  have hu := hm.upd
  have hrow := Lib.hid hm.row
  clear hm
  obtain ⟨n, hn⟩ : ∃ n, s.length = n := ⟨_, rfl⟩
  rw [hn]
  go_wp2_with fail
  go_loopw [5, 16] (fun nv iv wr => ∃ k : Nat, iv = .int .i64 (k : Int) ∧ nv = .int .u64 (valL (s.take k) : Int) ∧ k ≤ n ∧ Hid ((s.take k).all digB = true) ∧ wr = w1) (fun _ iv _ => n - (intOf iv).toNat)
  case atStart => exact ⟨0, rfl, rfl, by omega, Lib.hid rfl, rfl⟩
  case round =>
    obtain ⟨k, rfl, rfl, hk, hto, rfl⟩ := hrel
    by_cases hkn : k < n
    · have hkn' : (k : Int) < (n : Int) := by omega
      have hl : k < s.length := by omega
      have hb := (hrow.out k hl).1
      have ht := Lib.hid (take_snoc s k hl)
      have hlt := valL_lt _ hto.out
      have hlt2 : valL (s.take k) < 10 ^ 18 := Nat.lt_of_lt_of_le hlt (Nat.pow_le_pow_right (by decide) (by rw [List.length_take]; omega))
      have hsn := Lib.hid (valL_snoc (s.take k) s[k])
      have hdb : Hid (digB s[k] = decide (48 ≤ s[k].toNat ∧ s[k].toNat ≤ 57)) := Lib.hid rfl
      have hbn : digB s[k] = false → ¬ verOk s t := fun e f => by
        have := List.all_eq_true.1 f.2.1 s[k] (List.getElem_mem hl)
        rw [e] at this; cases this
      generalize hc : s[k] = c0 at *
      replace hc := Lib.hid hc
      obtain ⟨m, hm⟩ : ∃ m, c0.toNat = m := ⟨_, rfl⟩
      rw [hm] at hb hdb hsn
      obtain ⟨v, hv⟩ : ∃ v, valL (s.take k) = v := ⟨_, rfl⟩
      rw [hv] at hlt hlt2 hsn ⊢
      replace hm := Lib.hid hm
      replace hv := Lib.hid hv
      clear hlt
      by_cases g1 : m < 48
      · have hR := Lib.hid (verR_no (t := t) h1.out (hbn (by rw [hdb.out]; simp; omega)))
        have g1' : (m : Int) < 48 := by omega
        clear hbn
        go_wp2_with fail
        go_ret3
        exact ⟨by rw [hR.out]; rfl, hu⟩
      · have g1' : ¬ (m : Int) < 48 := by omega
        by_cases g2 : 57 < m
        · have hR := Lib.hid (verR_no (t := t) h1.out (hbn (by rw [hdb.out]; simp; omega)))
          have g2' : (57 : Int) < (m : Int) := by omega
          clear hbn
          go_wp2_with fail
          go_ret3
          exact ⟨by rw [hR.out]; rfl, hu⟩
        · have g2' : ¬ (57 : Int) < (m : Int) := by omega
          have hgood : Hid ((s.take (k + 1)).all digB = true) := Lib.hid (by rw [ht.out, List.all_append, hto.out]; simp [hdb.out]; omega)
          have hval : Hid ((valL (s.take (k + 1)) : Int) = 10 * (v : Int) + ((m : Int) - 48)) := Lib.hid (by rw [ht.out, hsn.out]; omega)
          clear hbn
          have hw1 : IntKind.u64.wrap (10 * (v : Int)) = 10 * (v : Int) := by rw [IntKind.wrap_u64]; omega
          have hw2 : IntKind.u8.wrap ((m : Int) - 48) = (m : Int) - 48 := by rw [IntKind.wrap_u8]; omega
          have hw3 : IntKind.u64.wrap ((m : Int) - 48) = (m : Int) - 48 := by rw [IntKind.wrap_u64]; omega
          have hw4 : IntKind.u64.wrap (10 * (v : Int) + ((m : Int) - 48)) = 10 * (v : Int) + ((m : Int) - 48) := by rw [IntKind.wrap_u64]; omega
          go_wp2_with fail
          go_roundw
          case rel => exact ⟨k + 1, by go_num, by rw [hval.out], by omega, hgood, trivial⟩
          case measure => simp [intOf]; omega
    · obtain rfl : k = n := by omega
      have htl : s.take k = s := by rw [List.take_of_length_le (by omega)]
      rw [htl] at hto ⊢
      clear htl
      have hbig : ¬ valL s ≤ 1152921504606846976 → ¬ verOk s t := fun e f => e f.2.2.1
      have hdif : ¬ s = t → ¬ verOk s t := fun e f => e f.2.2.2
      have hok : valL s ≤ 1152921504606846976 → s = t → verOk s t := fun e f => ⟨hsl, hto.out, e, f⟩
      obtain ⟨v, hv⟩ : ∃ v, valL s = v := ⟨_, rfl⟩
      replace hIt := Lib.hid (hIt.out hto.out)
      rw [hv] at hbig hok hIt ⊢
      replace hv := Lib.hid hv
      by_cases g1 : v ≤ 1152921504606846976
      · have g1' : ¬ (1152921504606846976 : Int) < (v : Int) := by omega
        replace hIt := Lib.hid (hIt.out g1)
        have hw : IntKind.i64.wrap (v : Int) = (v : Int) := IntWalk.i64_in _ ⟨by omega, by omega⟩
        clear hbig
        by_cases g2 : s = t
        · have hR := Lib.hid (verR_yes (t := t) h1.out (hok g1 g2))
          rw [hv.out] at hR
          have g2' : (s == t) = true := by simp [g2]
          replace g2 := Lib.hid g2
          clear hdif hok
          go_wp2_with fail
          refine (hIt.out _ hu).mono ?_
          rintro e w2 ⟨rfl, hu2⟩
          go_wp2_with fail
          go_ret3
          exact ⟨by rw [hR.out]; rfl, hu.trans hu2 fun _ _ h => h⟩
        · have hR := Lib.hid (verR_no (t := t) h1.out (hdif g2))
          have g2' : (s == t) = false := by simpa using g2
          clear hdif hok
          go_wp2_with fail
          refine (hIt.out _ hu).mono ?_
          rintro e w2 ⟨rfl, hu2⟩
          go_wp2_with fail
          go_ret3
          exact ⟨by rw [hR.out]; rfl, hu.trans hu2 fun _ _ h => h⟩
      · have hR := Lib.hid (verR_no (t := t) h1.out (hbig g1))
        have g1' : (1152921504606846976 : Int) < (v : Int) := by omega
        clear hbig hdif hok
        go_wp2_with fail
        go_ret3
        exact ⟨by rw [hR.out]; rfl, hu⟩
end Go.Proofs.YtaflpabpkpfifaaDoor
