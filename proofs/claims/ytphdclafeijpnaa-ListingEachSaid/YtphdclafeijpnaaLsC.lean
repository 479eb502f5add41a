/- The walks over the reference's entry and Below. -/
import Derived.Test.YtphdclafeijpnaaLsB
import Derived.Deep.QuietTactic
import Derived.Handy
namespace Go.Proofs.Ytphdclafeijpnaa
open Go.RowKit Go.Amb
set_option linter.unusedVariables false
set_option linter.unusedSimpArgs false
theorem entOf_some {s p : Str} {c : UInt8} {j : Nat} (hj : p.length + j < s.length) (h : s[p.length + j] = c) (hn : ∀ k, k < j → ∀ (h : p.length + k < s.length), s[p.length + k] ≠ c) : entOf s p [c] = (s.take (p.length + j + 1), true) := by
  have hf : (s.drop p.length).findIdx? (· == c) = some j := by
    rw [List.findIdx?_eq_some_iff_getElem]
    refine ⟨by rw [List.length_drop]; omega, by simpa using h, fun k hk => ?_⟩
    simpa using hn k hk (by omega)
  unfold entOf
  simp only [hf]
theorem entOf_none {s p : Str} {c : UInt8} (hn : ∀ k, ∀ (h : p.length + k < s.length), s[p.length + k] ≠ c) : entOf s p [c] = (s, false) := by
  have hf : (s.drop p.length).findIdx? (· == c) = none := by
    rw [List.findIdx?_eq_none_iff]
    intro x hx
    obtain ⟨k, hk, rfl⟩ := List.mem_iff_getElem.1 hx
    rw [List.length_drop] at hk
    simpa using hn k (by omega)
  unfold entOf
  simp only [hf]
set_option maxHeartbeats 2000000 in
theorem rEntry (s p d : Str) (w : World) (hd : d.length ≤ 1) (hp : p.length ≤ s.length) (hs : s.length ≤ 140737488355328) : Calls Try.prog 29 #[txtV s, txtV p, txtV d] w (Ret (.tuple #[txtV (entOf s p d).1, .bool (entOf s p d).2]) w) := by
  rcases len1 hd with rfl | ⟨c, rfl⟩
  · have he : entOf s p [] = (s, false) := rfl
    rw [he]
    unfold txtV
    go_enter Try.func29, Try.ntmps29
    go_wp2_with fail
    go_loopw [8] (fun i wr => i = .int .i64 p.length ∧ wr = w) (fun i _ => 0)
    case atStart => exact ⟨rfl, rfl⟩
    case round =>
      obtain ⟨rfl, rfl⟩ := hrel
      by_cases h : p.length < s.length
      · have h' : (p.length : Int) < s.length := by omega
        go_wp2_with fail
        go_returns
        exact ⟨rfl, Upd.refl _ _⟩
      · have h' : ¬ (p.length : Int) < s.length := by omega
        go_wp2_with fail
        go_returns
        exact ⟨rfl, Upd.refl _ _⟩
  · unfold txtV
    obtain ⟨R, hR⟩ : ∃ R : Value, R = .tuple #[.string ⟨(entOf s p [c]).1.toArray⟩, .bool (entOf s p [c]).2] := ⟨_, rfl⟩
    rw [← hR]
    replace hR := Lib.hid hR
    go_enter Try.func29, Try.ntmps29
    go_wp2_with fail
    go_loopw [8] (fun i wr => ∃ j : Nat, i = .int .i64 (p.length + j : Nat) ∧ p.length + j ≤ s.length ∧ Hid (∀ k, k < j → ∀ (h : p.length + k < s.length), s[p.length + k] ≠ c) ∧ wr = w) (fun i _ => s.length - (intOf i).toNat)
    case atStart => exact ⟨0, rfl, hp, Lib.hid (fun k hk => by omega), rfl⟩
    case round =>
      obtain ⟨j, rfl, hj, hn, rfl⟩ := hrel
      obtain ⟨i, hi⟩ : ∃ i, p.length + j = i := ⟨_, rfl⟩
      rw [hi] at hj ⊢
      by_cases h : i < s.length
      · have h' : (i : Int) < s.length := by omega
        have hw := IntWalk.i64_in ((i : Int) + 1) ⟨by omega, by omega⟩
        have hw3 := IntWalk.wrap64_in ((i : Int) + 1) ⟨by omega, by omega⟩
        have hsub := run_sub (P := Try.prog) 9 Try.underlying9 s (i : Int) ((i : Int) + 1) i (i + 1) rfl (by omega) (by omega) (by omega)
        have hone : (s.drop i).take (i + 1 - i) = [s[i]] := by
          rw [show i + 1 - i = 1 by omega, List.drop_eq_getElem_cons h]; rfl
        rw [hone] at hsub
        have hsub2 := run_subTo (P := Try.prog) 9 Try.underlying9 s ((i : Int) + 1) (i + 1) (by omega) (by omega)
        by_cases he : s[i] = c
        · have hE : entOf s p [c] = (s.take (i + 1), true) := by subst hi; exact entOf_some h he hn.out
          have hRe := hR.out
          rw [hE] at hRe
          rw [he] at hsub
          generalize s.take (i + 1) = t at *
          clear hone he hE
          go_wp2_with fail
          go_returns
          exact ⟨by simp [hRe], Upd.refl _ _⟩
        · obtain ⟨y, hy⟩ : ∃ y, s[i] = y := ⟨_, rfl⟩
          rw [hy] at hsub
          have he1 : ([y] == [c]) = false := by rw [← hy]; simpa using he
          have he2 : ([y] = [c]) = False := eq_false (by rw [← hy]; simpa using he)
          have he3 : ([c] = [y]) = False := eq_false (by rw [← hy]; simp; exact fun e => he e.symm)
          have he4 : ([c] == [y]) = false := by simp [he3]; intro e; exact he (hy.trans e.symm)
          replace he := Lib.hid he
          replace hy := Lib.hid hy
          clear hone hsub2
          go_wp2_with fail
          go_roundw
          case rel =>
            refine ⟨j + 1, by rw [← Nat.add_assoc, hi]; go_num, by omega, Lib.hid (fun k hk hk2 => ?_), trivial⟩
            rcases Nat.lt_succ_iff_lt_or_eq.1 hk with hk | rfl
            · exact hn.out k hk hk2
            · intro e
              subst hi
              exact he.out e
          case measure => simp [intOf]; omega
      · have h' : ¬ (i : Int) < s.length := by omega
        have hE : entOf s p [c] = (s, false) := entOf_none (fun k hk => hn.out k (by omega) hk)
        have hRe := hR.out
        rw [hE] at hRe
        clear hE
        go_wp2_with fail
        go_returns
        exact ⟨by simp [hRe], Upd.refl _ _⟩
theorem bl_nil' (l : List UInt8) : Op.bytesLess l [] = false := by cases l <;> rfl
theorem bl_nil_cons' (b : UInt8) (l : List UInt8) : Op.bytesLess [] (b :: l) = true := rfl
set_option maxHeartbeats 1000000 in
theorem rBelow (x y : List UInt8) (w : World) (hx : x.length ≤ 140737488355328) (hy : y.length ≤ 140737488355328) :
    Calls Try.prog 21 #[.string ⟨x.toArray⟩, .string ⟨y.toArray⟩] w (Ret (.bool (Op.bytesLess x y)) w) := by
  go_enter Try.func21, Try.ntmps21
  go_wp2_with fail
  go_loopw [5] (fun i wr => ∃ k : Nat, k ≤ x.length ∧ k ≤ y.length ∧ i = .int .i64 k ∧ Op.bytesLess (x.drop k) (y.drop k) = Op.bytesLess x y ∧ Upd Non w wr) (fun i _ => x.length - (intOf i).toNat)
  case atStart => exact ⟨0, by omega, by omega, rfl, rfl, Upd.refl _ _⟩
  case round =>
    obtain ⟨k, hk1, hk2, rfl, hb, hu⟩ := hrel
    replace hb := Lib.hid hb
    by_cases hlt : k < x.length ∧ k < y.length
    · obtain ⟨l1, l2⟩ := hlt
      have l1' : (k : Int) < x.length := by omega
      have l2' : (k : Int) < y.length := by omega
      have hst : Op.bytesLess (x.drop k) (y.drop k) = (decide (x[k] < y[k]) || (x[k] == y[k] && Op.bytesLess (x.drop (k + 1)) (y.drop (k + 1)))) := by
        rw [List.drop_eq_getElem_cons l1, List.drop_eq_getElem_cons l2]; rfl
      rw [hb.out] at hst
      have s1 : k < ByteArray.size ⟨x.toArray⟩ := by simpa [ByteArray.size] using l1
      have s2 : k < ByteArray.size ⟨y.toArray⟩ := by simpa [ByteArray.size] using l2
      by_cases he : x[k] = y[k]
      · rw [he] at hst
        simp only [UInt8.lt_irrefl, decide_false, Bool.false_or, BEq.rfl, Bool.true_and] at hst
        have hn : ((((⟨x.toArray⟩ : ByteArray)[k]'s1).toNat : Int) == (((⟨y.toArray⟩ : ByteArray)[k]'s2).toNat : Int)) = true := by
          show ((x[k].toNat : Int) == (y[k].toNat : Int)) = true
          rw [he]; simp
        replace hst := Lib.hid hst
        replace he := Lib.hid he
        go_wp2_with fail
        go_quiet (fail)
        go_wp2_with fail
        go_roundw
        case rel => exact ⟨k + 1, by omega, by omega, by go_num, hst.out.symm, hu.then_drewN _⟩
        case measure => simp [intOf]; omega
      · have hst2 : Op.bytesLess x y = decide (x[k] < y[k]) := by rw [hst]; simp [he]
        have hn : ((((⟨x.toArray⟩ : ByteArray)[k]'s1).toNat : Int) == (((⟨y.toArray⟩ : ByteArray)[k]'s2).toNat : Int)) = false := by
          show ((x[k].toNat : Int) == (y[k].toNat : Int)) = false
          have : x[k].toNat ≠ y[k].toNat := fun e => he (UInt8.toNat_inj.1 e)
          simp only [beq_eq_false_iff_ne, ne_eq]
          omega
        have hd : decide ((((⟨x.toArray⟩ : ByteArray)[k]'s1).toNat : Int) < (((⟨y.toArray⟩ : ByteArray)[k]'s2).toNat : Int)) = Op.bytesLess x y := by
          rw [hst2]
          show decide ((x[k].toNat : Int) < (y[k].toNat : Int)) = _
          rw [decide_eq_decide, UInt8.lt_iff_toNat_lt]
          omega
        replace hd := Lib.hid hd
        replace hst2 := Lib.hid hst2
        replace hst := Lib.hid hst
        go_wp2_with fail
        go_quiet (fail)
        go_wp2_with fail
        go_quiet (fail)
        go_wp2_with fail
        go_ret
        refine ⟨?_, (hu.then_drewN _).then_drewN _⟩
        rw [← hd.out]
        simp
    · have hend : Op.bytesLess x y = decide ((x.length : Int) < y.length) := by
        rw [← hb.out]
        by_cases h1 : k < x.length
        · obtain rfl : k = y.length := by omega
          rw [List.drop_length, bl_nil']
          symm; simp; omega
        · obtain rfl : k = x.length := by omega
          rw [List.drop_length]
          cases hd : y.drop x.length with
          | nil =>
            have : y.length ≤ x.length := by have := congrArg List.length hd; simp at this; omega
            symm; simp [Op.bytesLess]; omega
          | cons q r =>
            have : x.length < y.length := by have := congrArg List.length hd; simp at this; omega
            rw [bl_nil_cons']; symm; simp; omega
      replace hend := Lib.hid hend
      by_cases hl1 : k < x.length
      · have hl2 : ¬ (k : Int) < y.length := by omega
        have hl1' : (k : Int) < x.length := by omega
        clear hlt
        go_wp2_with fail
        go_ret
        exact ⟨by rw [hend.out]; simp, hu⟩
      · have hl1' : ¬ (k : Int) < x.length := by omega
        clear hlt
        go_wp2_with fail
        go_ret
        exact ⟨by rw [hend.out]; simp, hu⟩

end Go.Proofs.Ytphdclafeijpnaa
