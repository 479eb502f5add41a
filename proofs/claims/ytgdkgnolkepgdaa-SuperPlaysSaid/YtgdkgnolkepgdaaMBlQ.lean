/- Plain: what was flushed stands. -/
import Derived.Test.YtgdkgnolkepgdaaMBlP
namespace Go.Amb
open Go.RowKit
set_option linter.unusedVariables false
theorem keep_K (d : Dk) (f : Nat → Bool) : (d.keep f).K = keepK d.K d.P f d.P.length := rfl
theorem flush_K (d : Dk) : d.flush.1.K.length = d.K.length := by
  unfold Dk.flush
  split
  · rfl
  · split
    · rw [Dk.burn_K]
    · rw [keep_K, keepK_length, Dk.burn_K]
theorem crash_K (d : Dk) (l : List Int) : (d.crash l).K.length = d.K.length := by
  show (keepK d.K d.P _ d.P.length).length = _
  rw [keepK_length]
theorem arm_K (d : Dk) (n : Int) : (d.arm n).1.K = d.K := by unfold Dk.arm; split <;> rfl
theorem write_K (d : Dk) (i : Int) (s : List UInt8) : (d.write i s).1.K = d.K := by
  unfold Dk.write
  split
  · rfl
  · split
    · rfl
    · split
      · exact Dk.burn_K d
      · exact Dk.burn_K d
theorem doAct_K (d : Dk) (a : Act4) : (doAct d a).K.length = d.K.length := by
  unfold doAct
  split
  · exact flush_K d
  · split
    · exact crash_K d _
    · split
      · rw [arm_K]
      · rw [write_K]
theorem begunD_K (l : List Act4) (k : Nat) : (begunD l k).K.length = 8 := by
  unfold begunD
  generalize l.take k = m
  have : ∀ (m : List Act4) (d : Dk), (m.foldl doAct d).K.length = d.K.length := by
    intro m
    induction m with
    | nil => intro d; rfl
    | cons a m ih => intro d; rw [List.foldl_cons, ih, doAct_K]
  rw [this]; simp
/-- Sector n has s, kept, and nothing is pending there. -/
structure SureD (d : Dk) (n : Nat) (s : List UInt8) : Prop where
  k : d.K[n]? = some (full s)
  p : ∀ p ∈ d.P, p.2 ≠ n
  len : d.K.length = 8
theorem keepK_other {K : List (List UInt8)} {P : List (List UInt8 × Nat)} {n : Nat} (f : Nat → Bool) (hP : ∀ p ∈ P, p.2 ≠ n) : ∀ k, (keepK K P f k)[n]? = K[n]?
  | 0 => rfl
  | k + 1 => by
    rw [keepK]
    split
    · rename_i p hp
      have hne := hP p (List.mem_of_getElem? hp)
      split
      · rw [List.getElem?_set_ne hne]; exact keepK_other f hP k
      · exact keepK_other f hP k
    · exact keepK_other f hP k
theorem SureD.keep {d : Dk} {n : Nat} {s : List UInt8} (h : SureD d n s) (f : Nat → Bool) : SureD (d.keep f) n s :=
  ⟨by rw [keep_K, keepK_other f h.p]; exact h.k, fun p hp => (by cases hp), by rw [keep_K, keepK_length]; exact h.len⟩
theorem SureD.burn {d : Dk} {n : Nat} {s : List UInt8} (h : SureD d n s) : SureD d.burn.1 n s :=
  ⟨by rw [Dk.burn_K]; exact h.k, by rw [Dk.burn_P]; exact h.p, by rw [Dk.burn_K]; exact h.len⟩
theorem SureD.flush {d : Dk} {n : Nat} {s : List UInt8} (h : SureD d n s) : SureD d.flush.1 n s := by
  unfold Dk.flush
  split
  · exact h
  · split
    · exact h.burn
    · exact h.burn.keep _
theorem SureD.crash {d : Dk} {n : Nat} {s : List UInt8} (h : SureD d n s) (l : List Int) : SureD (d.crash l) n s := by
  have := h.keep fun k => decide ((k : Int) ∈ l)
  exact ⟨this.k, this.p, this.len⟩
theorem SureD.arm {d : Dk} {n : Nat} {s : List UInt8} (h : SureD d n s) (m : Int) : SureD (d.arm m).1 n s := by
  unfold Dk.arm
  split
  · exact h
  · exact ⟨h.k, h.p, h.len⟩
theorem SureD.write {d : Dk} {n : Nat} {s : List UInt8} (h : SureD d n s) (i : Int) (t : List UInt8) (hi : i ≠ n) : SureD (d.write i t).1 n s := by
  unfold Dk.write
  split
  · exact h
  · rename_i hw
    split
    · exact h
    · split
      · exact h.burn
      · have hb := h.burn
        refine ⟨hb.k, fun p hp => ?_, hb.len⟩
        rcases List.mem_append.1 hp with hp | hp
        · exact hb.p p hp
        · rw [List.mem_singleton] at hp
          subst hp
          have := (Dk.within_0 (Decidable.not_not.1 hw)).2.1
          simp only
          omega
theorem crash_within (d : Dk) (l : List Int) (i : Nat) (hi : i < d.K.length) : (d.crash l).within (i : Int) = 0 := by
  have h2 : (d.crash l).K.length = d.K.length := crash_K d l
  unfold Dk.within
  rw [if_neg (show ¬ (d.crash l).dd = true by simp [Dk.crash]), if_neg (by rw [h2]; omega)]
theorem crash_burn (d : Dk) (l : List Int) : (d.crash l).burn = (d.crash l, 0) := by
  unfold Dk.burn
  rw [if_neg (by simp [Dk.crash]), if_neg (by simp [Dk.crash])]
/-- Behind a crash a write, and a flush, go well; then the sector stands. -/
theorem sure_init (d : Dk) (n : Nat) (s : List UInt8) (hK : d.K.length = 8) (hn : n < 8) (hs : s.length ≤ 128) :
    ((d.crash []).write n s).2 = 0 ∧ ((d.crash []).write n s).1.flush.2 = 0 ∧ SureD ((d.crash []).write n s).1.flush.1 n s := by
  have hw := crash_within d [] n (by omega)
  have hb := crash_burn d []
  have hkl : (d.crash []).K.length = 8 := by rw [crash_K]; exact hK
  have hP : (d.crash []).P = [] := rfl
  have hd : (d.crash []).dd = false := rfl
  have hf : (d.crash []).f = -1 := rfl
  generalize d.crash [] = c at *
  have e : c.write n s = ({ c with P := [(full s, n)] }, 0) := by
    unfold Dk.write
    rw [if_neg (by simpa using hw), if_neg (by omega), hb, if_neg (by simp)]
    simp [hP]
  rw [e]
  have hb2 : ({ c with P := [(full s, n)] } : Dk).burn = ({ c with P := [(full s, n)] }, 0) := by
    unfold Dk.burn
    rw [if_neg (by simp [hf]), if_neg (by simp [hf])]
  refine ⟨rfl, ?_, ?_⟩
  · unfold Dk.flush
    rw [if_neg (by simp [hd]), hb2, if_neg (by simp)]
  · unfold Dk.flush
    rw [if_neg (by simp [hd]), hb2, if_neg (by simp)]
    refine ⟨?_, fun p hp => (by cases hp), by rw [keep_K, keepK_length]; exact hkl⟩
    show (keepK c.K [(full s, n)] (fun _ => true) 1)[n]? = _
    simp [keepK, hkl, hn]
theorem sure_reads {d : Dk} {n : Nat} {s : List UInt8} (h : SureD d n s) (l : List Int) (hn : n < 8) : (d.crash l).reads (n : Int) = full s := by
  have hw := crash_within d l n (by have := h.len; omega)
  unfold Dk.reads
  rw [if_pos hw, Int.toNat_natCast]
  have h2 := h.crash l
  unfold Dk.has
  have : lastAt (d.crash l).P n = none := rfl
  rw [this, Option.getD_none, List.getD_eq_getElem?_getD, h2.k]; rfl
end Go.Amb
