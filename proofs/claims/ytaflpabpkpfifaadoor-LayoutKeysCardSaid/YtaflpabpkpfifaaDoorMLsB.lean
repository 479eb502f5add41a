/- The walks over strings.HasPrefix, strings.Index at a text of one byte, listing.of; and the reference's begins, entry. -/
import Derived.Test.YtaflpabpkpfifaaDoorMLsP
import Derived.Test.YtaflpabpkpfifaaDoorMLibE
import Derived.Test.YtaflpabpkpfifaaDoorRows
import Derived.Deep.QuietTactic
import Derived.Handy
namespace Go.Proofs.YtaflpabpkpfifaaDoor
set_option maxRecDepth 100000
open Go.RowKit Go.Amb
set_option linter.unusedVariables false
set_option linter.unusedSimpArgs false
theorem begins_iff (s p : Str) : begins s p = (decide (p.length ≤ s.length) && (s.take p.length == p)) := by
  unfold begins
  by_cases h : p.length ≤ s.length <;> by_cases h' : s.take p.length = p <;> simp [h, h']
set_option maxHeartbeats 1000000 in
theorem lIxByte (s : Str) (c : UInt8) (w : World) : Calls Tryd.prog 78 #[txtV s, .int .u8 c.toNat] w (Ret (.int .i64 (Lib.indexByte s c)) w) := by
  unfold txtV
  have hx := Lib.run_indexByteString (P := Tryd.prog) ⟨s.toArray⟩ c.toNat w
  have hc : ((c.toNat : Int)).toNat.toUInt8 = c := by simp
  rw [hc] at hx
  go_enter Tryd.func78, Tryd.ntmps78
  go_wp2_with fail
  rw [run_callFunc_extern Tryd.func89 (by kernel_rfl) (by kernel_rfl) (by kernel_rfl) (e := Extern.BytealgIndexByte.indexByte) (by kernel_rfl), hx]
  simp only [Result.andThen]
  rw [Oper.upon_value]
  go_wp2_with fail
  go_ret
  exact ⟨rfl, Upd.refl _ _⟩
set_option maxHeartbeats 1000000 in
theorem lSIndex (s : Str) (c : UInt8) (w : World) : Calls Tryd.prog 62 #[txtV s, txtV [c]] w (Ret (.int .i64 (Lib.indexByte s c)) w) := by
  by_cases he : [c] = s
  · subst he
    have h0 : Lib.indexByte [c] c = 0 := by simp [Lib.indexByte]
    rw [h0]
    unfold txtV
    go_enter Tryd.func62, Tryd.ntmps62
    go_wp2_with fail
    go_ret
    exact ⟨rfl, Upd.refl _ _⟩
  · have cI := fun w => lIxByte s c w
    unfold txtV at *
    have he' : ([c] == s) = false := by simpa using he
    have he2 : ([c] = s) = False := eq_false he
    clear he
    go_enter Tryd.func62, Tryd.ntmps62
    go_wp2_with fail
    refine (cI w).mono ?_
    rintro e w' ⟨rfl, hu⟩
    simp only []
    go_wp2_with fail
    go_ret
    exact ⟨rfl, hu⟩
theorem lIndex (s : Str) (c : UInt8) (w : World) : Calls Tryd.prog 41 #[txtV s, txtV [c]] w (Ret (.int .i64 (Lib.indexByte s c)) w) := by
  have cI := fun w => lSIndex s c w
  unfold txtV at *
  go_enter Tryd.func41, Tryd.ntmps41
  go_wp2_with fail
  refine (cI w).mono ?_
  rintro e w' ⟨rfl, hu⟩
  simp only []
  go_wp2_with fail
  go_ret
  exact ⟨rfl, hu⟩
theorem cell2 {w : World} {b : Nat} {c0 c1 : Value} {t : TypeId} (h : w.heap[b]? = some (.cells #[c0, c1] t (0, 0))) : w.cell? ⟨b, 0, none⟩ = some c0 ∧ w.cell? ⟨b, 1, none⟩ = some c1 := ⟨(cells_of h).1 0, (cells_of h).1 1⟩
abbrev entV (x : Ent) : Value := .agg #[txtV x.1, .bool x.2]
theorem len1 {d : Str} (h : d.length ≤ 1) : d = [] ∨ ∃ c, d = [c] := by
  match d, h with
  | [], _ => exact .inl rfl
  | [c], _ => exact .inr ⟨c, rfl⟩
  | _ :: _ :: _, h => simp at h
end Go.Proofs.YtaflpabpkpfifaaDoor

namespace Go.Proofs.YtaflpabpkpfifaaDoor
set_option maxRecDepth 100000
open Go.RowKit Go.Amb
set_option linter.unusedVariables false
set_option linter.unusedSimpArgs false
theorem entOf_some {s p : Str} {c : UInt8} {j : Nat} (hj : p.length + j < s.length) (h : s[p.length + j] = c) (hn : ∀ k, k < j → ∀ (h : p.length + k < s.length), s[p.length + k] ≠ c) : entOf s p [c] = (s.take (p.length + j + 1), true) := by
  have hf : (s.drop p.length).findIdx? (· == c) = some j := by
    rw [List.findIdx?_eq_some_iff_getElem]
    refine ⟨by rw [List.length_drop]; omega, by simpa using h, fun k hk => ?_⟩
    simpa using hn k hk (by omega)
  unfold entOf
  simp only [hf]
theorem entOf_none {s p : Str} {c : UInt8} (hn : ∀ k, ∀ (h : p.length + k < s.length), s[p.length + k] ≠ c) : entOf s p [c] = (s, false) := by
  have hf : (s.drop p.length).findIdx? (· == c) = none := by
    rw [List.findIdx?_eq_none_iff]
    intro x hx
    obtain ⟨k, hk, rfl⟩ := List.mem_iff_getElem.1 hx
    rw [List.length_drop] at hk
    simpa using hn k (by omega)
  unfold entOf
  simp only [hf]
theorem bl_nil' (l : List UInt8) : Op.bytesLess l [] = false := by cases l <;> rfl
theorem bl_nil_cons' (b : UInt8) (l : List UInt8) : Op.bytesLess [] (b :: l) = true := rfl
end Go.Proofs.YtaflpabpkpfifaaDoor

namespace Go.Proofs.YtaflpabpkpfifaaDoor
set_option maxRecDepth 100000
open Go.RowKit Go.Amb
set_option linter.unusedVariables false
set_option linter.unusedSimpArgs false
theorem by_at {s : Str} {k m : Nat} (h : k < s.length) (hm : s[k].toNat = m) (hz : k < ByteArray.size ⟨s.toArray⟩) : ((⟨s.toArray⟩ : ByteArray)[k]'hz).toNat = m := hm
theorem bk_no {s : Str} (k : Nat) (h : k < s.length) (hn : ¬ (plainB s[k] = true ∨ (s[k].toNat = 45 ∧ 0 < k ∧ k + 1 < s.length))) : bk s = 15 := by
  unfold bk; rw [if_neg]; exact fun ⟨_, _, h3⟩ => hn (h3 k h)
theorem bk_short {s : Str} (h : s.length < 3 ∨ 12 < s.length) : bk s = 15 := by
  unfold bk; rw [if_neg]; exact fun ⟨h1, h2, _⟩ => by omega
def bkTo (s : Str) (k : Nat) : Prop := ∀ i, i < k → ∀ (h : i < s.length), plainB s[i] = true ∨ (s[i].toNat = 45 ∧ 0 < i ∧ i + 1 < s.length)
theorem bkTo.next {s : Str} {k : Nat} (h : bkTo s k) (hk : ∀ (h : k < s.length), plainB s[k] = true ∨ (s[k].toNat = 45 ∧ 0 < k ∧ k + 1 < s.length)) : bkTo s (k + 1) := by
  intro i hi hl
  rcases Nat.lt_succ_iff_lt_or_eq.1 hi with h' | rfl
  · exact h i h' hl
  · exact hk hl
theorem plain_iff {c : UInt8} {m : Nat} (h : c.toNat = m) : plainB c = decide ((97 ≤ m ∧ m ≤ 122) ∨ (48 ≤ m ∧ m ≤ 57)) := by subst h; rfl
set_option maxHeartbeats 4000000 in
theorem lBucket (s : Str) (w : World) (hs : s.length ≤ 140737488355328) : Calls Tryd.prog 30 #[txtV s] w (Ret (.int .i64 (bk s)) w) := by
  unfold txtV
  obtain ⟨R, hR⟩ : ∃ R, R = bk s := ⟨_, rfl⟩
  rw [← hR]
  replace hR := Lib.hid hR
  by_cases h1 : s.length < 3
  · have hbad := Lib.hid (bk_short (.inl h1))
    have h1' : (s.length : Int) < 3 := by omega
    go_enter Tryd.func30, Tryd.ntmps30
    go_wp2_with fail
    go_ret
    exact ⟨by rw [hR.out, hbad.out]; rfl, Upd.refl _ _⟩
  by_cases h2 : 12 < s.length
  · have hbad := Lib.hid (bk_short (.inr h2))
    have h1' : ((s.length : Int) < 3) = False := eq_false (by omega)
    have h2' : (12 : Int) < (s.length : Int) := by omega
    clear h1
    go_enter Tryd.func30, Tryd.ntmps30
    go_wp2_with fail
    go_ret
    exact ⟨by rw [hR.out, hbad.out]; rfl, Upd.refl _ _⟩
  · have h1' : ((s.length : Int) < 3) = False := eq_false (by omega)
    have h2' : ((12 : Int) < (s.length : Int)) = False := eq_false (by omega)
    replace h1 := Lib.hid h1
    replace h2 := Lib.hid h2
    go_enter Tryd.func30, Tryd.ntmps30
    go_wp2_with fail
    obtain ⟨n, hn⟩ : ∃ n, s.length = n := ⟨_, rfl⟩
    rw [hn]
    go_loopw [15] (fun iv wr => ∃ k : Nat, iv = .int .i64 (k : Int) ∧ k ≤ n ∧ Hid (bkTo s k) ∧ wr = w) (fun iv _ => n - (intOf iv).toNat)
    case atStart => exact ⟨0, rfl, by omega, Lib.hid (fun i h => by omega), rfl⟩
    case round =>
      obtain ⟨k, rfl, hk, hto, rfl⟩ := hrel
      by_cases hkn : k < n
      · have hkn' : (k : Int) < (n : Int) := by omega
        have hk0 : (0 : Int) ≤ (k : Int) := by omega
        have hl : k < s.length := by omega
        have hl' : (k : Int) < (s.length : Int) := by omega
        have hsz : k < ByteArray.size ⟨s.toArray⟩ := by simpa [ByteArray.size] using hl
        obtain ⟨m, hm⟩ : ∃ m, s[k].toNat = m := ⟨_, rfl⟩
        have hb := by_at hl hm hsz
        have hpl := plain_iff hm
        by_cases h45 : m = 45
        · subst h45
          by_cases hin : 0 < k ∧ k + 1 < n
          · have hgood := Lib.hid (hto.out.next fun _ => .inr ⟨hm, hin.1, by omega⟩)
            have h3 : (0 : Int) < (k : Int) := by omega
            have h3n : 0 < k := by omega
            have hw := IntWalk.i64_in ((n : Int) - 1) ⟨by omega, by omega⟩
            have hw3 := IntWalk.wrap64_in ((n : Int) - 1) ⟨by omega, by omega⟩
            have h4 : (k : Int) < (n : Int) - 1 := by omega
            replace hm := Lib.hid hm
            replace hto := Lib.hid hto
            replace hpl := Lib.hid hpl
            clear hin
            go_wp2_with fail
            go_roundw
            case rel => exact ⟨k + 1, by go_num, by omega, Lib.hid hgood.out, trivial⟩
            case measure => simp [intOf]; omega
          · have hbad := Lib.hid (bk_no k hl (by rw [hpl, hm]; rintro (h | h); simp at h; omega))
            have hw := IntWalk.i64_in ((n : Int) - 1) ⟨by omega, by omega⟩
            have hw3 := IntWalk.wrap64_in ((n : Int) - 1) ⟨by omega, by omega⟩
            replace hm := Lib.hid hm
            replace hpl := Lib.hid hpl
            by_cases hkz : k = 0
            · have h3 : ((0 : Int) < (k : Int)) = False := eq_false (by omega)
              have h3n : (0 < k) = False := eq_false (by omega)
              clear hin
              replace hkz := Lib.hid hkz
              go_wp2_with fail
              go_ret
              exact ⟨by rw [hR.out, hbad.out]; rfl, Upd.refl _ _⟩
            · have h3 : (0 : Int) < (k : Int) := by omega
              have h3n : 0 < k := by omega
              have h4 : ((k : Int) < (n : Int) - 1) = False := eq_false (by omega)
              clear hin hkz
              go_wp2_with fail
              go_ret
              exact ⟨by rw [hR.out, hbad.out]; rfl, Upd.refl _ _⟩
        · have e45 : ((m : Int) == 45) = false := by rw [beq_eq_false_iff_ne]; omega
          by_cases hg : (97 ≤ m ∧ m ≤ 122) ∨ (48 ≤ m ∧ m ≤ 57)
          · have hgood := Lib.hid (hto.out.next fun _ => .inl (by rw [hpl]; exact decide_eq_true hg))
            have f1 : ((m : Int) < 48) = False := eq_false (by omega)
            have f2 : ((122 : Int) < (m : Int)) = False := eq_false (by omega)
            replace hm := Lib.hid hm
            replace hpl := Lib.hid hpl
            by_cases h57 : 57 < m
            · have f3 : (57 : Int) < (m : Int) := by omega
              have f4 : ((m : Int) < 97) = False := eq_false (by omega)
              clear hg h45 h57
              go_wp2_with fail
              go_roundw
              case rel => exact ⟨k + 1, by go_num, by omega, Lib.hid hgood.out, trivial⟩
              case measure => simp [intOf]; omega
            · have f3 : ((57 : Int) < (m : Int)) = False := eq_false (by omega)
              clear hg h45 h57
              go_wp2_with fail
              go_roundw
              case rel => exact ⟨k + 1, by go_num, by omega, Lib.hid hgood.out, trivial⟩
              case measure => simp [intOf]; omega
          · have hbad := Lib.hid (bk_no k hl (by rw [hpl, hm]; rintro (h | h); exact hg (of_decide_eq_true h); exact h45 h.1))
            replace hm := Lib.hid hm
            replace hpl := Lib.hid hpl
            by_cases f1 : m < 48
            · have f1' : (m : Int) < 48 := by omega
              clear hg h45 f1
              go_wp2_with fail
              go_ret
              exact ⟨by rw [hR.out, hbad.out]; rfl, Upd.refl _ _⟩
            · have f1' : ((m : Int) < 48) = False := eq_false (by omega)
              have f3 : (57 : Int) < (m : Int) := by omega
              by_cases f4 : m < 97
              · have f4' : (m : Int) < 97 := by omega
                clear hg h45 f1 f4
                go_wp2_with fail
                go_ret
                exact ⟨by rw [hR.out, hbad.out]; rfl, Upd.refl _ _⟩
              · have f4' : ((m : Int) < 97) = False := eq_false (by omega)
                have f5 : (122 : Int) < (m : Int) := by omega
                clear hg h45 f1 f4
                go_wp2_with fail
                go_ret
                exact ⟨by rw [hR.out, hbad.out]; rfl, Upd.refl _ _⟩
      · obtain rfl : k = n := by omega
        have hkn' : ¬ (k : Int) < (k : Int) := by omega
        have hend : bk s = 0 := by
          unfold bk; rw [if_pos]
          exact ⟨by have := h1.out; omega, by have := h2.out; omega, fun i hi => hto.out i (by omega) hi⟩
        replace hend := Lib.hid hend
        go_wp2_with fail
        go_ret
        exact ⟨by rw [hR.out, hend.out]; rfl, Upd.refl _ _⟩
end Go.Proofs.YtaflpabpkpfifaaDoor

namespace Go.Proofs.YtaflpabpkpfifaaDoor
set_option maxRecDepth 100000
open Go.RowKit Go.Amb
set_option linter.unusedVariables false
set_option linter.unusedSimpArgs false
def obTo (s : Str) (k : Nat) : Prop := ∀ i, i < k → ∀ (h : i < s.length), 33 ≤ s[i].toNat ∧ s[i].toNat ≤ 126
theorem obTo.next {s : Str} {k : Nat} (h : obTo s k) (hk : ∀ (h : k < s.length), 33 ≤ s[k].toNat ∧ s[k].toNat ≤ 126) : obTo s (k + 1) := by
  intro i hi hl
  rcases Nat.lt_succ_iff_lt_or_eq.1 hi with h' | rfl
  · exact h i h' hl
  · exact hk hl
theorem ob_no {s : Str} (k : Nat) (h : k < s.length) (hn : ¬ (33 ≤ s[k].toNat ∧ s[k].toNat ≤ 126)) : obj s = 15 := by
  unfold obj; rw [if_neg]; exact fun ⟨_, _, h3⟩ => hn (h3 k h)
theorem ob_short {s : Str} (h : s.length < 1 ∨ 32 < s.length) : obj s = 15 := by
  unfold obj; rw [if_neg]; exact fun ⟨h1, h2, _⟩ => by omega
theorem rPlain (c : UInt8) (m : Nat) (hm : c.toNat = m) (w : World) : Calls Tryd.prog 59 #[.int .u8 (m : Int)] w (Ret (.bool (plainB c)) w) := by
  obtain ⟨R, hR⟩ : ∃ R, R = plainB c := ⟨_, rfl⟩
  rw [← hR]
  rw [plain_iff hm] at hR
  by_cases h1 : 97 ≤ m
  · have h1' : (97 : Int) ≤ (m : Int) := by omega
    by_cases h2 : m ≤ 122
    · have h2' : (m : Int) ≤ 122 := by omega
      obtain rfl : R = true := by rw [hR]; exact decide_eq_true (.inl ⟨h1, h2⟩)
      clear hR
      go_enter Tryd.func59, Tryd.ntmps59
      go_wp2_with fail
      go_ret
      exact ⟨rfl, Upd.refl _ _⟩
    · have h2' : ((m : Int) ≤ 122) = False := eq_false (by omega)
      have h3 : (48 : Int) ≤ (m : Int) := by omega
      have h4 : ((m : Int) ≤ 57) = False := eq_false (by omega)
      have h4n : (m ≤ 57) = False := eq_false (by omega)
      have h2n : (m ≤ 122) = False := eq_false (by omega)
      obtain rfl : R = false := by rw [hR]; exact decide_eq_false (by omega)
      clear hR h2
      go_enter Tryd.func59, Tryd.ntmps59
      go_wp2_with fail
      go_ret
      exact ⟨rfl, Upd.refl _ _⟩
  · have h1' : ((97 : Int) ≤ (m : Int)) = False := eq_false (by omega)
    have h1n : (97 ≤ m) = False := eq_false (by omega)
    by_cases h3 : 48 ≤ m
    · have h3' : (48 : Int) ≤ (m : Int) := by omega
      by_cases h2 : m ≤ 57
      · have h2' : (m : Int) ≤ 57 := by omega
        obtain rfl : R = true := by rw [hR]; exact decide_eq_true (.inr ⟨h3, h2⟩)
        clear hR h1
        go_enter Tryd.func59, Tryd.ntmps59
        go_wp2_with fail
        go_ret
        exact ⟨rfl, Upd.refl _ _⟩
      · have h2' : ((m : Int) ≤ 57) = False := eq_false (by omega)
        have h2n : (m ≤ 57) = False := eq_false (by omega)
        obtain rfl : R = false := by rw [hR]; exact decide_eq_false (by omega)
        clear hR h1 h2
        go_enter Tryd.func59, Tryd.ntmps59
        go_wp2_with fail
        go_ret
        exact ⟨rfl, Upd.refl _ _⟩
    · have h3' : ((48 : Int) ≤ (m : Int)) = False := eq_false (by omega)
      have h3n : (48 ≤ m) = False := eq_false (by omega)
      obtain rfl : R = false := by rw [hR]; exact decide_eq_false (by omega)
      clear hR h1 h3
      go_enter Tryd.func59, Tryd.ntmps59
      go_wp2_with fail
      go_ret
      exact ⟨rfl, Upd.refl _ _⟩
set_option maxHeartbeats 4000000 in
theorem lObject (s : Str) (w : World) (hs : s.length ≤ 140737488355328) : Calls Tryd.prog 31 #[txtV s] w (Ret (.int .i64 (obj s)) w) := by
  unfold txtV
  obtain ⟨R, hR⟩ : ∃ R, R = obj s := ⟨_, rfl⟩
  rw [← hR]
  replace hR := Lib.hid hR
  by_cases h1 : s = []
  · have hbad := Lib.hid (ob_short (s := s) (.inl (by rw [h1]; simp)))
    have e1 : ([] == s) = true := by rw [h1]; rfl
    have e2 : (s == []) = true := by rw [h1]; rfl
    have e3 : ([] = s) = True := by rw [h1]; simp
    replace h1 := Lib.hid h1
    go_enter Tryd.func31, Tryd.ntmps31
    go_wp2_with fail
    go_ret
    exact ⟨by rw [hR.out, hbad.out]; rfl, Upd.refl _ _⟩
  have hl0 : s.length ≠ 0 := fun h => h1 (List.length_eq_zero_iff.1 h)
  have e1 : ([] == s) = false := by rw [beq_eq_false_iff_ne]; exact fun h => h1 h.symm
  have e2 : (s == []) = false := by rw [beq_eq_false_iff_ne]; exact h1
  have e3 : ([] = s) = False := eq_false (fun h => h1 h.symm)
  by_cases h2 : 32 < s.length
  · have hbad := Lib.hid (ob_short (.inr h2))
    have h2' : (32 : Int) < (s.length : Int) := by omega
    clear h1 hl0
    go_enter Tryd.func31, Tryd.ntmps31
    go_wp2_with fail
    go_ret
    exact ⟨by rw [hR.out, hbad.out]; rfl, Upd.refl _ _⟩
  · have h2' : ((32 : Int) < (s.length : Int)) = False := eq_false (by omega)
    have h2n : (32 < s.length) = False := eq_false h2
    have hsl : s.length ≤ 32 := by omega
    replace hl0 := Lib.hid hl0
    clear h1 h2
    go_enter Tryd.func31, Tryd.ntmps31
    go_wp2_with (refine wpList_tobytes rfl _ 9 86 5 rfl Tryd.underlying9 Tryd.underlying86 Tryd.underlying5 s rfl (by unfold maxLen; omega) ?_)
    intro c w1 hm
    have hu := hm.upd
    have hrow := Lib.hid hm.row
    clear hm
    obtain ⟨n, hn⟩ : ∃ n, s.length = n := ⟨_, rfl⟩
    rw [hn]
    go_wp2_with fail
    go_loopw [15] (fun iv wr => ∃ k : Nat, iv = .int .i64 (k : Int) ∧ k ≤ n ∧ Hid (obTo s k) ∧ wr = w1) (fun iv _ => n - (intOf iv).toNat)
    case atStart => exact ⟨0, rfl, by omega, Lib.hid (fun i h => by omega), rfl⟩
    case round =>
      obtain ⟨k, rfl, hk, hto, rfl⟩ := hrel
      by_cases hkn : k < n
      · have hkn' : (k : Int) < (n : Int) := by omega
        have hk0 : (0 : Int) ≤ (k : Int) := by omega
        have hl : k < s.length := by omega
        have hb := (hrow.out k hl).1
        obtain ⟨m, hm⟩ : ∃ m, s[k].toNat = m := ⟨_, rfl⟩
        rw [hm] at hb
        by_cases g1 : m < 33
        · have hbad := Lib.hid (ob_no k hl (by omega))
          have g1' : (m : Int) < 33 := by omega
          replace hm := Lib.hid hm
          go_wp2_with fail
          go_ret
          exact ⟨by rw [hR.out, hbad.out]; rfl, hu⟩
        · have g1' : ((m : Int) < 33) = False := eq_false (by omega)
          have g1n : (m < 33) = False := eq_false g1
          by_cases g2 : 126 < m
          · have hbad := Lib.hid (ob_no k hl (by omega))
            have g2' : (126 : Int) < (m : Int) := by omega
            replace hm := Lib.hid hm
            clear g1
            go_wp2_with fail
            go_ret
            exact ⟨by rw [hR.out, hbad.out]; rfl, hu⟩
          · have g2' : ((126 : Int) < (m : Int)) = False := eq_false (by omega)
            have g2n : (126 < m) = False := eq_false g2
            have hgood := Lib.hid (hto.out.next fun _ => by omega)
            replace hm := Lib.hid hm
            clear g1 g2
            go_wp2_with fail
            go_roundw
            case rel => exact ⟨k + 1, by go_num, by omega, Lib.hid hgood.out, trivial⟩
            case measure => simp [intOf]; omega
      · obtain rfl : k = n := by omega
        have hkn' : ¬ (k : Int) < (k : Int) := by omega
        have hend : obj s = 0 := by
          unfold obj; rw [if_pos]
          exact ⟨by have := hl0.out; omega, by omega, fun i hi => hto.out i (by omega) hi⟩
        replace hend := Lib.hid hend
        go_wp2_with fail
        go_ret
        exact ⟨by rw [hR.out, hend.out]; rfl, hu⟩
set_option maxHeartbeats 4000000 in
theorem rObject (s : Str) (w : World) (hs : s.length ≤ 140737488355328) : Calls Tryd.prog 36 #[txtV s] w (Ret (.int .i64 (obj s)) w) := by
  unfold txtV
  obtain ⟨R, hR⟩ : ∃ R, R = obj s := ⟨_, rfl⟩
  rw [← hR]
  replace hR := Lib.hid hR
  by_cases h1 : s.length < 1
  · have hbad := Lib.hid (ob_short (s := s) (.inl h1))
    have h1' : (s.length : Int) < 1 := by omega
    go_enter Tryd.func36, Tryd.ntmps36
    go_wp2_with fail
    go_ret
    exact ⟨by rw [hR.out, hbad.out]; rfl, Upd.refl _ _⟩
  have h1' : ((s.length : Int) < 1) = False := eq_false (by omega)
  by_cases h2 : 32 < s.length
  · have hbad := Lib.hid (ob_short (.inr h2))
    have h2' : (32 : Int) < (s.length : Int) := by omega
    clear h1
    go_enter Tryd.func36, Tryd.ntmps36
    go_wp2_with fail
    go_ret
    exact ⟨by rw [hR.out, hbad.out]; rfl, Upd.refl _ _⟩
  · have h2' : ((32 : Int) < (s.length : Int)) = False := eq_false (by omega)
    have h2n : (32 < s.length) = False := eq_false h2
    have hsl : s.length ≤ 32 := by omega
    replace h1 := Lib.hid h1
    clear h2
    go_enter Tryd.func36, Tryd.ntmps36
    go_wp2_with fail
    obtain ⟨n, hn⟩ : ∃ n, s.length = n := ⟨_, rfl⟩
    rw [hn]
    go_loopw [3] (fun iv wr => ∃ k : Nat, iv = .int .i64 (k : Int) ∧ k ≤ n ∧ Hid (obTo s k) ∧ wr = w) (fun iv _ => n - (intOf iv).toNat)
    case atStart => exact ⟨0, rfl, by omega, Lib.hid (fun i h => by omega), rfl⟩
    case round =>
      obtain ⟨k, rfl, hk, hto, rfl⟩ := hrel
      by_cases hkn : k < n
      · have hkn' : (k : Int) < (n : Int) := by omega
        have hk0 : (0 : Int) ≤ (k : Int) := by omega
        have hl : k < s.length := by omega
        have hl' : (k : Int) < (s.length : Int) := by omega
        have hsz : k < ByteArray.size ⟨s.toArray⟩ := by simpa [ByteArray.size] using hl
        obtain ⟨m, hm⟩ : ∃ m, s[k].toNat = m := ⟨_, rfl⟩
        have hb := by_at hl hm hsz
        by_cases g1 : m < 33
        · have hbad := Lib.hid (ob_no k hl (by omega))
          have g1' : (m : Int) < 33 := by omega
          replace hm := Lib.hid hm
          go_wp2_with fail
          go_ret
          exact ⟨by rw [hR.out, hbad.out]; rfl, Upd.refl _ _⟩
        · have g1' : ((m : Int) < 33) = False := eq_false (by omega)
          have g1n : (m < 33) = False := eq_false g1
          by_cases g2 : 126 < m
          · have hbad := Lib.hid (ob_no k hl (by omega))
            have g2' : (126 : Int) < (m : Int) := by omega
            replace hm := Lib.hid hm
            clear g1
            go_wp2_with fail
            go_ret
            exact ⟨by rw [hR.out, hbad.out]; rfl, Upd.refl _ _⟩
          · have g2' : ((126 : Int) < (m : Int)) = False := eq_false (by omega)
            have g2n : (126 < m) = False := eq_false g2
            have hgood := Lib.hid (hto.out.next fun _ => by omega)
            replace hm := Lib.hid hm
            clear g1 g2
            go_wp2_with fail
            go_roundw
            case rel => exact ⟨k + 1, by go_num, by omega, Lib.hid hgood.out, trivial⟩
            case measure => simp [intOf]; omega
      · obtain rfl : k = n := by omega
        have hkn' : ¬ (k : Int) < (k : Int) := by omega
        have hend : obj s = 0 := by
          unfold obj; rw [if_pos]
          exact ⟨by have := h1.out; omega, by omega, fun i hi => hto.out i (by omega) hi⟩
        replace hend := Lib.hid hend
        go_wp2_with fail
        go_ret
        exact ⟨by rw [hR.out, hend.out]; rfl, Upd.refl _ _⟩
end Go.Proofs.YtaflpabpkpfifaaDoor

namespace Go.Proofs.YtaflpabpkpfifaaDoor
set_option maxRecDepth 100000
open Go.RowKit Go.Amb
set_option linter.unusedVariables false
set_option linter.unusedSimpArgs false
theorem plain_call {c : UInt8} {m : Nat} (hm : c.toNat = m) (b : Bool) (hb : plainB c = b) : Hid (∀ w, Calls Tryd.prog 59 #[.int .u8 (m : Int)] w (Ret (.bool b) w)) := Lib.hid (fun w => by rw [← hb]; exact rPlain c m hm w)
set_option maxHeartbeats 4000000 in
theorem rBucket (s : Str) (w : World) (hs : s.length ≤ 140737488355328) : Calls Tryd.prog 35 #[txtV s] w (Ret (.int .i64 (bk s)) w) := by
  unfold txtV
  obtain ⟨R, hR⟩ : ∃ R, R = bk s := ⟨_, rfl⟩
  rw [← hR]
  replace hR := Lib.hid hR
  by_cases h1 : s.length < 3
  · have hbad := Lib.hid (bk_short (.inl h1))
    have h1' : (s.length : Int) < 3 := by omega
    go_enter Tryd.func35, Tryd.ntmps35
    go_wp2_with fail
    go_ret
    exact ⟨by rw [hR.out, hbad.out]; rfl, Upd.refl _ _⟩
  by_cases h2 : 12 < s.length
  · have hbad := Lib.hid (bk_short (.inr h2))
    have h1' : ((s.length : Int) < 3) = False := eq_false (by omega)
    have h2' : (12 : Int) < (s.length : Int) := by omega
    clear h1
    go_enter Tryd.func35, Tryd.ntmps35
    go_wp2_with fail
    go_ret
    exact ⟨by rw [hR.out, hbad.out]; rfl, Upd.refl _ _⟩
  have h1' : ((s.length : Int) < 3) = False := eq_false (by omega)
  have h2' : ((12 : Int) < (s.length : Int)) = False := eq_false (by omega)
  have h0 : 0 < s.length := by omega
  obtain ⟨n, hn⟩ : ∃ n, s.length = n := ⟨_, rfl⟩
  have hln : n - 1 < s.length := by omega
  obtain ⟨m0, hm0⟩ : ∃ m, s[0].toNat = m := ⟨_, rfl⟩
  obtain ⟨m1, hm1⟩ : ∃ m, s[n - 1].toNat = m := ⟨_, rfl⟩
  have hb0 := by_at h0 hm0 (by simpa [ByteArray.size] using h0)
  have hb1 := by_at hln hm1 (by simpa [ByteArray.size] using hln)
  have hn12 : n ≤ 12 := by omega
  have hn3 : 3 ≤ n := by omega
  have hw := IntWalk.i64_in ((n : Int) - 1) ⟨by omega, by omega⟩
  have hw3 := IntWalk.wrap64_in ((n : Int) - 1) ⟨by omega, by omega⟩
  have hnn : ((n : Int) - 1).toNat = n - 1 := by omega
  have hnz : (0 : Int) ≤ (n : Int) - 1 := by omega
  have hnl : (n : Int) - 1 < (n : Int) := by omega
  have hn0 : (0 : Int) < (n : Int) := by omega
  replace h1 := Lib.hid h1
  replace h2 := Lib.hid h2
  by_cases hp0 : plainB s[0] = true
  · have c0 := plain_call hm0 true hp0
    by_cases hp1 : plainB s[n - 1] = true
    · have c1 := plain_call hm1 true hp1
      replace hp0 := Lib.hid hp0
      replace hp1 := Lib.hid hp1
      replace hm0 := Lib.hid hm0
      replace hm1 := Lib.hid hm1
      replace hn3 := Lib.hid hn3
      rw [hn] at h1' h2'
      go_enter Tryd.func35, Tryd.ntmps35
      go_wp2_with fail
      refine (c0.out _).mono ?_
      rintro e w1 ⟨rfl, hu1⟩
      simp only []
      go_wp2_with fail
      refine (c1.out _).mono ?_
      rintro e w2 ⟨rfl, hu2⟩
      have hU := hu1.trans hu2 fun _ _ h => h
      clear hu1 hu2 c0 c1 hb0 hb1
      simp only []
      go_wp2_with fail
      go_loopw [3] (fun iv wr => ∃ k : Nat, iv = .int .i64 (k : Int) ∧ k ≤ n ∧ Hid (bkTo s k) ∧ Upd Non w wr) (fun iv _ => n - (intOf iv).toNat)
      case atStart => exact ⟨0, rfl, by omega, Lib.hid (fun i h => by omega), hU⟩
      case round =>
        clear hU
        obtain ⟨k, rfl, hk, hto, hU⟩ := hrel
        by_cases hkn : k < n
        · have hkn' : (k : Int) < (n : Int) := by omega
          have hk0 : (0 : Int) ≤ (k : Int) := by omega
          have hl : k < s.length := by omega
          have hl' : (k : Int) < (s.length : Int) := by omega
          have hsz : k < ByteArray.size ⟨s.toArray⟩ := by simpa [ByteArray.size] using hl
          obtain ⟨m, hm⟩ : ∃ m, s[k].toNat = m := ⟨_, rfl⟩
          have hb := by_at hl hm hsz
          by_cases hp : plainB s[k] = true
          · have c := plain_call hm true hp
            have hgood := Lib.hid (hto.out.next fun _ => .inl hp)
            replace hm := Lib.hid hm
            replace hp := Lib.hid hp
            go_wp2_with fail
            refine (c.out _).mono ?_
            rintro e w3 ⟨rfl, hu3⟩
            have hU3 := hU.trans hu3 fun _ _ h => h
            clear hU hu3 c
            simp only []
            go_wp2_with fail
            go_roundw
            case rel => exact ⟨k + 1, by go_num, by omega, Lib.hid hgood.out, hU3⟩
            case measure => simp [intOf]; omega
          · have c := plain_call hm false (by simpa using hp)
            by_cases h45 : m = 45
            · subst h45
              have hk1 : k ≠ 0 := fun e => by subst e; exact hp hp0.out
              have hk2 : k ≠ n - 1 := fun e => by subst e; exact hp hp1.out
              have hn3' := hn3.out
              have hgood := Lib.hid (hto.out.next fun _ => .inr ⟨hm, by omega, by omega⟩)
              replace hm := Lib.hid hm
              replace hp := Lib.hid hp
              clear hk1 hk2 hn3'
              go_wp2_with fail
              refine (c.out _).mono ?_
              rintro e w3 ⟨rfl, hu3⟩
              have hU3 := hU.trans hu3 fun _ _ h => h
              clear hU hu3 c
              simp only []
              go_wp2_with fail
              go_roundw
              case rel => exact ⟨k + 1, by go_num, by omega, Lib.hid hgood.out, hU3⟩
              case measure => simp [intOf]; omega
            · have hbad := Lib.hid (bk_no k hl (by rw [hm]; rintro (h | h); exact hp h; exact h45 h.1))
              have e45 : ((m : Int) == 45) = false := by rw [beq_eq_false_iff_ne]; omega
              have e45' : (45 == (m : Int)) = false := by rw [beq_eq_false_iff_ne]; omega
              replace hm := Lib.hid hm
              replace hp := Lib.hid hp
              replace h45 := Lib.hid h45
              go_wp2_with fail
              refine (c.out _).mono ?_
              rintro e w3 ⟨rfl, hu3⟩
              have hU3 := hU.trans hu3 fun _ _ h => h
              clear hU hu3 c
              simp only []
              go_wp2_with fail
              go_ret
              exact ⟨by rw [hR.out, hbad.out]; rfl, hU3⟩
        · obtain rfl : k = n := by omega
          have hkn' : ¬ (k : Int) < (k : Int) := by omega
          have hend : bk s = 0 := by
            unfold bk; rw [if_pos]
            exact ⟨by have := h1.out; omega, by have := h2.out; omega, fun i hi => hto.out i (by omega) hi⟩
          replace hend := Lib.hid hend
          go_wp2_with fail
          go_ret
          exact ⟨by rw [hR.out, hend.out]; rfl, hU⟩
    · have c1 := plain_call hm1 false (by simpa using hp1)
      have hbad := Lib.hid (bk_no (n - 1) hln (by rintro (h | h); exact hp1 h; omega))
      replace hp0 := Lib.hid hp0
      replace hp1 := Lib.hid hp1
      replace hm0 := Lib.hid hm0
      replace hm1 := Lib.hid hm1
      replace hn3 := Lib.hid hn3
      rw [hn] at h1' h2'
      go_enter Tryd.func35, Tryd.ntmps35
      go_wp2_with fail
      refine (c0.out _).mono ?_
      rintro e w1 ⟨rfl, hu1⟩
      simp only []
      go_wp2_with fail
      refine (c1.out _).mono ?_
      rintro e w2 ⟨rfl, hu2⟩
      have hU := hu1.trans hu2 fun _ _ h => h
      simp only []
      go_wp2_with fail
      go_ret
      exact ⟨by rw [hR.out, hbad.out]; rfl, hU⟩
  · have c0 := plain_call hm0 false (by simpa using hp0)
    have hbad := Lib.hid (bk_no 0 h0 (by rintro (h | h); exact hp0 h; omega))
    replace hp0 := Lib.hid hp0
    replace hm0 := Lib.hid hm0
    replace hm1 := Lib.hid hm1
    replace hn3 := Lib.hid hn3
    rw [hn] at h1' h2'
    go_enter Tryd.func35, Tryd.ntmps35
    go_wp2_with fail
    refine (c0.out _).mono ?_
    rintro e w1 ⟨rfl, hu1⟩
    simp only []
    go_wp2_with fail
    go_ret
    exact ⟨by rw [hR.out, hbad.out]; rfl, hu1⟩
end Go.Proofs.YtaflpabpkpfifaaDoor
