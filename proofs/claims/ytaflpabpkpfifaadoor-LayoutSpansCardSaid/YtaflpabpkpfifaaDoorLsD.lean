/- The walks over Bucket, Object, Check, and the reference's. -/
import Derived.Test.YtaflpabpkpfifaaDoorLsC
namespace Go.Proofs.YtaflpabpkpfifaaDoor
set_option maxRecDepth 100000
open Go.RowKit Go.Amb
set_option linter.unusedVariables false
set_option linter.unusedSimpArgs false
theorem by_at {s : Str} {k m : Nat} (h : k < s.length) (hm : s[k].toNat = m) (hz : k < ByteArray.size ⟨s.toArray⟩) : ((⟨s.toArray⟩ : ByteArray)[k]'hz).toNat = m := hm
theorem bk_no {s : Str} (k : Nat) (h : k < s.length) (hn : ¬ (plainB s[k] = true ∨ (s[k].toNat = 45 ∧ 0 < k ∧ k + 1 < s.length))) : bk s = 15 := by
  unfold bk; rw [if_neg]; exact fun ⟨_, _, h3⟩ => hn (h3 k h)
theorem bk_short {s : Str} (h : s.length < 3 ∨ 12 < s.length) : bk s = 15 := by
  unfold bk; rw [if_neg]; exact fun ⟨h1, h2, _⟩ => by omega
def bkTo (s : Str) (k : Nat) : Prop := ∀ i, i < k → ∀ (h : i < s.length), plainB s[i] = true ∨ (s[i].toNat = 45 ∧ 0 < i ∧ i + 1 < s.length)
theorem bkTo.next {s : Str} {k : Nat} (h : bkTo s k) (hk : ∀ (h : k < s.length), plainB s[k] = true ∨ (s[k].toNat = 45 ∧ 0 < k ∧ k + 1 < s.length)) : bkTo s (k + 1) := by
  intro i hi hl
  rcases Nat.lt_succ_iff_lt_or_eq.1 hi with h' | rfl
  · exact h i h' hl
  · exact hk hl
theorem plain_iff {c : UInt8} {m : Nat} (h : c.toNat = m) : plainB c = decide ((97 ≤ m ∧ m ≤ 122) ∨ (48 ≤ m ∧ m ≤ 57)) := by subst h; rfl
set_option maxHeartbeats 4000000 in
theorem lBucket (s : Str) (w : World) (hs : s.length ≤ 140737488355328) : Calls Tryd.prog 30 #[txtV s] w (Ret (.int .i64 (bk s)) w) := by
  unfold txtV
  obtain ⟨R, hR⟩ : ∃ R, R = bk s := ⟨_, rfl⟩
  rw [← hR]
  replace hR := Lib.hid hR
  by_cases h1 : s.length < 3
  · have hbad := Lib.hid (bk_short (.inl h1))
    have h1' : (s.length : Int) < 3 := by omega
    go_enter Tryd.func30, Tryd.ntmps30
    go_wp2_with fail
    go_ret
    exact ⟨by rw [hR.out, hbad.out]; rfl, Upd.refl _ _⟩
  by_cases h2 : 12 < s.length
  · have hbad := Lib.hid (bk_short (.inr h2))
    have h1' : ((s.length : Int) < 3) = False := eq_false (by omega)
    have h2' : (12 : Int) < (s.length : Int) := by omega
    clear h1
    go_enter Tryd.func30, Tryd.ntmps30
    go_wp2_with fail
    go_ret
    exact ⟨by rw [hR.out, hbad.out]; rfl, Upd.refl _ _⟩
  · have h1' : ((s.length : Int) < 3) = False := eq_false (by omega)
    have h2' : ((12 : Int) < (s.length : Int)) = False := eq_false (by omega)
    replace h1 := Lib.hid h1
    replace h2 := Lib.hid h2
    go_enter Tryd.func30, Tryd.ntmps30
    go_wp2_with fail
    obtain ⟨n, hn⟩ : ∃ n, s.length = n := ⟨_, rfl⟩
    rw [hn]
    go_loopw [15] (fun iv wr => ∃ k : Nat, iv = .int .i64 (k : Int) ∧ k ≤ n ∧ Hid (bkTo s k) ∧ wr = w) (fun iv _ => n - (intOf iv).toNat)
    case atStart => exact ⟨0, rfl, by omega, Lib.hid (fun i h => by omega), rfl⟩
    case round =>
      obtain ⟨k, rfl, hk, hto, rfl⟩ := hrel
      by_cases hkn : k < n
      · have hkn' : (k : Int) < (n : Int) := by omega
        have hk0 : (0 : Int) ≤ (k : Int) := by omega
        have hl : k < s.length := by omega
        have hl' : (k : Int) < (s.length : Int) := by omega
        have hsz : k < ByteArray.size ⟨s.toArray⟩ := by simpa [ByteArray.size] using hl
        obtain ⟨m, hm⟩ : ∃ m, s[k].toNat = m := ⟨_, rfl⟩
        have hb := by_at hl hm hsz
        have hpl := plain_iff hm
        by_cases h45 : m = 45
        · subst h45
          by_cases hin : 0 < k ∧ k + 1 < n
          · have hgood := Lib.hid (hto.out.next fun _ => .inr ⟨hm, hin.1, by omega⟩)
            have h3 : (0 : Int) < (k : Int) := by omega
            have h3n : 0 < k := by omega
            have hw := IntWalk.i64_in ((n : Int) - 1) ⟨by omega, by omega⟩
            have hw3 := IntWalk.wrap64_in ((n : Int) - 1) ⟨by omega, by omega⟩
            have h4 : (k : Int) < (n : Int) - 1 := by omega
            replace hm := Lib.hid hm
            replace hto := Lib.hid hto
            replace hpl := Lib.hid hpl
            clear hin
            go_wp2_with fail
            go_roundw
            case rel => exact ⟨k + 1, by go_num, by omega, Lib.hid hgood.out, trivial⟩
            case measure => simp [intOf]; omega
          · have hbad := Lib.hid (bk_no k hl (by rw [hpl, hm]; rintro (h | h); simp at h; omega))
            have hw := IntWalk.i64_in ((n : Int) - 1) ⟨by omega, by omega⟩
            have hw3 := IntWalk.wrap64_in ((n : Int) - 1) ⟨by omega, by omega⟩
            replace hm := Lib.hid hm
            replace hpl := Lib.hid hpl
            by_cases hkz : k = 0
            · have h3 : ((0 : Int) < (k : Int)) = False := eq_false (by omega)
              have h3n : (0 < k) = False := eq_false (by omega)
              clear hin
              replace hkz := Lib.hid hkz
              go_wp2_with fail
              go_ret
              exact ⟨by rw [hR.out, hbad.out]; rfl, Upd.refl _ _⟩
            · have h3 : (0 : Int) < (k : Int) := by omega
              have h3n : 0 < k := by omega
              have h4 : ((k : Int) < (n : Int) - 1) = False := eq_false (by omega)
              clear hin hkz
              go_wp2_with fail
              go_ret
              exact ⟨by rw [hR.out, hbad.out]; rfl, Upd.refl _ _⟩
        · have e45 : ((m : Int) == 45) = false := by rw [beq_eq_false_iff_ne]; omega
          by_cases hg : (97 ≤ m ∧ m ≤ 122) ∨ (48 ≤ m ∧ m ≤ 57)
          · have hgood := Lib.hid (hto.out.next fun _ => .inl (by rw [hpl]; exact decide_eq_true hg))
            have f1 : ((m : Int) < 48) = False := eq_false (by omega)
            have f2 : ((122 : Int) < (m : Int)) = False := eq_false (by omega)
            replace hm := Lib.hid hm
            replace hpl := Lib.hid hpl
            by_cases h57 : 57 < m
            · have f3 : (57 : Int) < (m : Int) := by omega
              have f4 : ((m : Int) < 97) = False := eq_false (by omega)
              clear hg h45 h57
              go_wp2_with fail
              go_roundw
              case rel => exact ⟨k + 1, by go_num, by omega, Lib.hid hgood.out, trivial⟩
              case measure => simp [intOf]; omega
            · have f3 : ((57 : Int) < (m : Int)) = False := eq_false (by omega)
              clear hg h45 h57
              go_wp2_with fail
              go_roundw
              case rel => exact ⟨k + 1, by go_num, by omega, Lib.hid hgood.out, trivial⟩
              case measure => simp [intOf]; omega
          · have hbad := Lib.hid (bk_no k hl (by rw [hpl, hm]; rintro (h | h); exact hg (of_decide_eq_true h); exact h45 h.1))
            replace hm := Lib.hid hm
            replace hpl := Lib.hid hpl
            by_cases f1 : m < 48
            · have f1' : (m : Int) < 48 := by omega
              clear hg h45 f1
              go_wp2_with fail
              go_ret
              exact ⟨by rw [hR.out, hbad.out]; rfl, Upd.refl _ _⟩
            · have f1' : ((m : Int) < 48) = False := eq_false (by omega)
              have f3 : (57 : Int) < (m : Int) := by omega
              by_cases f4 : m < 97
              · have f4' : (m : Int) < 97 := by omega
                clear hg h45 f1 f4
                go_wp2_with fail
                go_ret
                exact ⟨by rw [hR.out, hbad.out]; rfl, Upd.refl _ _⟩
              · have f4' : ((m : Int) < 97) = False := eq_false (by omega)
                have f5 : (122 : Int) < (m : Int) := by omega
                clear hg h45 f1 f4
                go_wp2_with fail
                go_ret
                exact ⟨by rw [hR.out, hbad.out]; rfl, Upd.refl _ _⟩
      · obtain rfl : k = n := by omega
        have hkn' : ¬ (k : Int) < (k : Int) := by omega
        have hend : bk s = 0 := by
          unfold bk; rw [if_pos]
          exact ⟨by have := h1.out; omega, by have := h2.out; omega, fun i hi => hto.out i (by omega) hi⟩
        replace hend := Lib.hid hend
        go_wp2_with fail
        go_ret
        exact ⟨by rw [hR.out, hend.out]; rfl, Upd.refl _ _⟩
end Go.Proofs.YtaflpabpkpfifaaDoor
