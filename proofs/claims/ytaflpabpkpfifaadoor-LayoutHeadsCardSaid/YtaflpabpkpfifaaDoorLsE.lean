/- The walks over Object, Check, and the reference's plain, Bucket, Object, Check. -/
import Derived.Test.YtaflpabpkpfifaaDoorLsD
namespace Go.Proofs.YtaflpabpkpfifaaDoor
set_option maxRecDepth 100000
open Go.RowKit Go.Amb
set_option linter.unusedVariables false
set_option linter.unusedSimpArgs false
def obTo (s : Str) (k : Nat) : Prop := ∀ i, i < k → ∀ (h : i < s.length), 33 ≤ s[i].toNat ∧ s[i].toNat ≤ 126
theorem obTo.next {s : Str} {k : Nat} (h : obTo s k) (hk : ∀ (h : k < s.length), 33 ≤ s[k].toNat ∧ s[k].toNat ≤ 126) : obTo s (k + 1) := by
  intro i hi hl
  rcases Nat.lt_succ_iff_lt_or_eq.1 hi with h' | rfl
  · exact h i h' hl
  · exact hk hl
theorem ob_no {s : Str} (k : Nat) (h : k < s.length) (hn : ¬ (33 ≤ s[k].toNat ∧ s[k].toNat ≤ 126)) : obj s = 15 := by
  unfold obj; rw [if_neg]; exact fun ⟨_, _, h3⟩ => hn (h3 k h)
theorem ob_short {s : Str} (h : s.length < 1 ∨ 32 < s.length) : obj s = 15 := by
  unfold obj; rw [if_neg]; exact fun ⟨h1, h2, _⟩ => by omega
theorem rPlain (c : UInt8) (m : Nat) (hm : c.toNat = m) (w : World) : Calls Tryd.prog 59 #[.int .u8 (m : Int)] w (Ret (.bool (plainB c)) w) := by
  obtain ⟨R, hR⟩ : ∃ R, R = plainB c := ⟨_, rfl⟩
  rw [← hR]
  rw [plain_iff hm] at hR
  by_cases h1 : 97 ≤ m
  · have h1' : (97 : Int) ≤ (m : Int) := by omega
    by_cases h2 : m ≤ 122
    · have h2' : (m : Int) ≤ 122 := by omega
      obtain rfl : R = true := by rw [hR]; exact decide_eq_true (.inl ⟨h1, h2⟩)
      clear hR
      go_enter Tryd.func59, Tryd.ntmps59
      go_wp2_with fail
      go_ret
      exact ⟨rfl, Upd.refl _ _⟩
    · have h2' : ((m : Int) ≤ 122) = False := eq_false (by omega)
      have h3 : (48 : Int) ≤ (m : Int) := by omega
      have h4 : ((m : Int) ≤ 57) = False := eq_false (by omega)
      have h4n : (m ≤ 57) = False := eq_false (by omega)
      have h2n : (m ≤ 122) = False := eq_false (by omega)
      obtain rfl : R = false := by rw [hR]; exact decide_eq_false (by omega)
      clear hR h2
      go_enter Tryd.func59, Tryd.ntmps59
      go_wp2_with fail
      go_ret
      exact ⟨rfl, Upd.refl _ _⟩
  · have h1' : ((97 : Int) ≤ (m : Int)) = False := eq_false (by omega)
    have h1n : (97 ≤ m) = False := eq_false (by omega)
    by_cases h3 : 48 ≤ m
    · have h3' : (48 : Int) ≤ (m : Int) := by omega
      by_cases h2 : m ≤ 57
      · have h2' : (m : Int) ≤ 57 := by omega
        obtain rfl : R = true := by rw [hR]; exact decide_eq_true (.inr ⟨h3, h2⟩)
        clear hR h1
        go_enter Tryd.func59, Tryd.ntmps59
        go_wp2_with fail
        go_ret
        exact ⟨rfl, Upd.refl _ _⟩
      · have h2' : ((m : Int) ≤ 57) = False := eq_false (by omega)
        have h2n : (m ≤ 57) = False := eq_false (by omega)
        obtain rfl : R = false := by rw [hR]; exact decide_eq_false (by omega)
        clear hR h1 h2
        go_enter Tryd.func59, Tryd.ntmps59
        go_wp2_with fail
        go_ret
        exact ⟨rfl, Upd.refl _ _⟩
    · have h3' : ((48 : Int) ≤ (m : Int)) = False := eq_false (by omega)
      have h3n : (48 ≤ m) = False := eq_false (by omega)
      obtain rfl : R = false := by rw [hR]; exact decide_eq_false (by omega)
      clear hR h1 h3
      go_enter Tryd.func59, Tryd.ntmps59
      go_wp2_with fail
      go_ret
      exact ⟨rfl, Upd.refl _ _⟩
set_option maxHeartbeats 4000000 in
theorem lObject (s : Str) (w : World) (hs : s.length ≤ 140737488355328) : Calls Tryd.prog 31 #[txtV s] w (Ret (.int .i64 (obj s)) w) := by
  unfold txtV
  obtain ⟨R, hR⟩ : ∃ R, R = obj s := ⟨_, rfl⟩
  rw [← hR]
  replace hR := Lib.hid hR
  by_cases h1 : s = []
  · have hbad := Lib.hid (ob_short (s := s) (.inl (by rw [h1]; simp)))
    have e1 : ([] == s) = true := by rw [h1]; rfl
    have e2 : (s == []) = true := by rw [h1]; rfl
    have e3 : ([] = s) = True := by rw [h1]; simp
    replace h1 := Lib.hid h1
    go_enter Tryd.func31, Tryd.ntmps31
    go_wp2_with fail
    go_ret
    exact ⟨by rw [hR.out, hbad.out]; rfl, Upd.refl _ _⟩
  have hl0 : s.length ≠ 0 := fun h => h1 (List.length_eq_zero_iff.1 h)
  have e1 : ([] == s) = false := by rw [beq_eq_false_iff_ne]; exact fun h => h1 h.symm
  have e2 : (s == []) = false := by rw [beq_eq_false_iff_ne]; exact h1
  have e3 : ([] = s) = False := eq_false (fun h => h1 h.symm)
  by_cases h2 : 32 < s.length
  · have hbad := Lib.hid (ob_short (.inr h2))
    have h2' : (32 : Int) < (s.length : Int) := by omega
    clear h1 hl0
    go_enter Tryd.func31, Tryd.ntmps31
    go_wp2_with fail
    go_ret
    exact ⟨by rw [hR.out, hbad.out]; rfl, Upd.refl _ _⟩
  · have h2' : ((32 : Int) < (s.length : Int)) = False := eq_false (by omega)
    have h2n : (32 < s.length) = False := eq_false h2
    have hsl : s.length ≤ 32 := by omega
    replace hl0 := Lib.hid hl0
    clear h1 h2
    go_enter Tryd.func31, Tryd.ntmps31
    go_wp2_with (refine wpList_tobytes rfl _ 9 86 5 rfl Tryd.underlying9 Tryd.underlying86 Tryd.underlying5 s rfl (by unfold maxLen; omega) ?_)
    intro c w1 hm
    have hu := hm.upd
    have hrow := Lib.hid hm.row
    clear hm
    obtain ⟨n, hn⟩ : ∃ n, s.length = n := ⟨_, rfl⟩
    rw [hn]
    go_wp2_with fail
    go_loopw [15] (fun iv wr => ∃ k : Nat, iv = .int .i64 (k : Int) ∧ k ≤ n ∧ Hid (obTo s k) ∧ wr = w1) (fun iv _ => n - (intOf iv).toNat)
    case atStart => exact ⟨0, rfl, by omega, Lib.hid (fun i h => by omega), rfl⟩
    case round =>
      obtain ⟨k, rfl, hk, hto, rfl⟩ := hrel
      by_cases hkn : k < n
      · have hkn' : (k : Int) < (n : Int) := by omega
        have hk0 : (0 : Int) ≤ (k : Int) := by omega
        have hl : k < s.length := by omega
        have hb := (hrow.out k hl).1
        obtain ⟨m, hm⟩ : ∃ m, s[k].toNat = m := ⟨_, rfl⟩
        rw [hm] at hb
        by_cases g1 : m < 33
        · have hbad := Lib.hid (ob_no k hl (by omega))
          have g1' : (m : Int) < 33 := by omega
          replace hm := Lib.hid hm
          go_wp2_with fail
          go_ret
          exact ⟨by rw [hR.out, hbad.out]; rfl, hu⟩
        · have g1' : ((m : Int) < 33) = False := eq_false (by omega)
          have g1n : (m < 33) = False := eq_false g1
          by_cases g2 : 126 < m
          · have hbad := Lib.hid (ob_no k hl (by omega))
            have g2' : (126 : Int) < (m : Int) := by omega
            replace hm := Lib.hid hm
            clear g1
            go_wp2_with fail
            go_ret
            exact ⟨by rw [hR.out, hbad.out]; rfl, hu⟩
          · have g2' : ((126 : Int) < (m : Int)) = False := eq_false (by omega)
            have g2n : (126 < m) = False := eq_false g2
            have hgood := Lib.hid (hto.out.next fun _ => by omega)
            replace hm := Lib.hid hm
            clear g1 g2
            go_wp2_with fail
            go_roundw
            case rel => exact ⟨k + 1, by go_num, by omega, Lib.hid hgood.out, trivial⟩
            case measure => simp [intOf]; omega
      · obtain rfl : k = n := by omega
        have hkn' : ¬ (k : Int) < (k : Int) := by omega
        have hend : obj s = 0 := by
          unfold obj; rw [if_pos]
          exact ⟨by have := hl0.out; omega, by omega, fun i hi => hto.out i (by omega) hi⟩
        replace hend := Lib.hid hend
        go_wp2_with fail
        go_ret
        exact ⟨by rw [hR.out, hend.out]; rfl, hu⟩
set_option maxHeartbeats 4000000 in
theorem rObject (s : Str) (w : World) (hs : s.length ≤ 140737488355328) : Calls Tryd.prog 36 #[txtV s] w (Ret (.int .i64 (obj s)) w) := by
  unfold txtV
  obtain ⟨R, hR⟩ : ∃ R, R = obj s := ⟨_, rfl⟩
  rw [← hR]
  replace hR := Lib.hid hR
  by_cases h1 : s.length < 1
  · have hbad := Lib.hid (ob_short (s := s) (.inl h1))
    have h1' : (s.length : Int) < 1 := by omega
    go_enter Tryd.func36, Tryd.ntmps36
    go_wp2_with fail
    go_ret
    exact ⟨by rw [hR.out, hbad.out]; rfl, Upd.refl _ _⟩
  have h1' : ((s.length : Int) < 1) = False := eq_false (by omega)
  by_cases h2 : 32 < s.length
  · have hbad := Lib.hid (ob_short (.inr h2))
    have h2' : (32 : Int) < (s.length : Int) := by omega
    clear h1
    go_enter Tryd.func36, Tryd.ntmps36
    go_wp2_with fail
    go_ret
    exact ⟨by rw [hR.out, hbad.out]; rfl, Upd.refl _ _⟩
  · have h2' : ((32 : Int) < (s.length : Int)) = False := eq_false (by omega)
    have h2n : (32 < s.length) = False := eq_false h2
    have hsl : s.length ≤ 32 := by omega
    replace h1 := Lib.hid h1
    clear h2
    go_enter Tryd.func36, Tryd.ntmps36
    go_wp2_with fail
    obtain ⟨n, hn⟩ : ∃ n, s.length = n := ⟨_, rfl⟩
    rw [hn]
    go_loopw [3] (fun iv wr => ∃ k : Nat, iv = .int .i64 (k : Int) ∧ k ≤ n ∧ Hid (obTo s k) ∧ wr = w) (fun iv _ => n - (intOf iv).toNat)
    case atStart => exact ⟨0, rfl, by omega, Lib.hid (fun i h => by omega), rfl⟩
    case round =>
      obtain ⟨k, rfl, hk, hto, rfl⟩ := hrel
      by_cases hkn : k < n
      · have hkn' : (k : Int) < (n : Int) := by omega
        have hk0 : (0 : Int) ≤ (k : Int) := by omega
        have hl : k < s.length := by omega
        have hl' : (k : Int) < (s.length : Int) := by omega
        have hsz : k < ByteArray.size ⟨s.toArray⟩ := by simpa [ByteArray.size] using hl
        obtain ⟨m, hm⟩ : ∃ m, s[k].toNat = m := ⟨_, rfl⟩
        have hb := by_at hl hm hsz
        by_cases g1 : m < 33
        · have hbad := Lib.hid (ob_no k hl (by omega))
          have g1' : (m : Int) < 33 := by omega
          replace hm := Lib.hid hm
          go_wp2_with fail
          go_ret
          exact ⟨by rw [hR.out, hbad.out]; rfl, Upd.refl _ _⟩
        · have g1' : ((m : Int) < 33) = False := eq_false (by omega)
          have g1n : (m < 33) = False := eq_false g1
          by_cases g2 : 126 < m
          · have hbad := Lib.hid (ob_no k hl (by omega))
            have g2' : (126 : Int) < (m : Int) := by omega
            replace hm := Lib.hid hm
            clear g1
            go_wp2_with fail
            go_ret
            exact ⟨by rw [hR.out, hbad.out]; rfl, Upd.refl _ _⟩
          · have g2' : ((126 : Int) < (m : Int)) = False := eq_false (by omega)
            have g2n : (126 < m) = False := eq_false g2
            have hgood := Lib.hid (hto.out.next fun _ => by omega)
            replace hm := Lib.hid hm
            clear g1 g2
            go_wp2_with fail
            go_roundw
            case rel => exact ⟨k + 1, by go_num, by omega, Lib.hid hgood.out, trivial⟩
            case measure => simp [intOf]; omega
      · obtain rfl : k = n := by omega
        have hkn' : ¬ (k : Int) < (k : Int) := by omega
        have hend : obj s = 0 := by
          unfold obj; rw [if_pos]
          exact ⟨by have := h1.out; omega, by omega, fun i hi => hto.out i (by omega) hi⟩
        replace hend := Lib.hid hend
        go_wp2_with fail
        go_ret
        exact ⟨by rw [hR.out, hend.out]; rfl, Upd.refl _ _⟩
end Go.Proofs.YtaflpabpkpfifaaDoor
