/- Supers in plain Lean: a super's bytes, the super of bytes. -/
import Derived.Test.YtgdkgnolkepgdaaMFPlain
import Derived.Test.YtgdkgnolkepgdaaMBlB
import Derived.Test.YtgdkgnolkepgdaaMTagA
namespace Go.Proofs.Ytgdkgnolkepgdaa
set_option maxRecDepth 100000
open Go.RowKit Go.Amb
set_option linter.unusedVariables false

def i64Ok (n : Int) : Prop := -9223372036854775808 ≤ n ∧ n ≤ 9223372036854775807
structure Sp where
  gen : Int
  root : Int
  start : Int
  epoch : Int
  last : Int
  mark : Int
  deriving DecidableEq
def Sp.none : Sp := ⟨0, 0, 0, 0, 0, 0⟩
def spV (s : Sp) : Value := .agg #[.int .i64 s.gen, .int .i64 s.root, .int .i64 s.start, .int .i64 s.epoch, .int .i64 s.last, .int .i64 s.mark]
def spI64 (s : Sp) : Prop := i64Ok s.gen ∧ i64Ok s.root ∧ i64Ok s.start ∧ i64Ok s.epoch ∧ i64Ok s.last ∧ i64Ok s.mark
def SpOk (s : Sp) : Prop := (0 ≤ s.gen ∧ s.gen ≤ 1152921504606846976) ∧ (0 ≤ s.start ∧ s.start ≤ 1152921504606846976) ∧ (-1 ≤ s.root ∧ s.root ≤ 16383) ∧ (0 ≤ s.epoch ∧ s.epoch ≤ 2147483647) ∧ (0 ≤ s.last ∧ s.last ≤ 1152921504606846976) ∧ 0 ≤ s.mark ∧ s.mark ≤ s.last
instance (s : Sp) : Decidable (SpOk s) := by unfold SpOk; infer_instance
def preS (s : Sp) : List UInt8 := [65, 77, 66, 82] ++ fld s.gen 8 ++ fld (s.root + 1) 4 ++ fld s.start 8 ++ fld s.epoch 4 ++ fld s.last 8 ++ fld s.mark 8
def putS (s : Sp) : List UInt8 := preS s ++ fld (sumC (preS s)) 4
def ckS (s : Sp) : Int := if SpOk s then 0 else 2
def bytesR (s : Sp) : List UInt8 × Int := if SpOk s then (full (putS s), 0) else ([], 2)
def spOf (b : List UInt8) : Sp := ⟨wrap64 (numL ((b.drop 4).take 8)), numL ((b.drop 12).take 4) - 1, wrap64 (numL ((b.drop 16).take 8)), numL ((b.drop 24).take 4), wrap64 (numL ((b.drop 28).take 8)), wrap64 (numL ((b.drop 36).take 8))⟩
def readR (b : List UInt8) : Sp × Int := if b.length = 128 ∧ bytesR (spOf b) = (b, 0) then (spOf b, 0) else (Sp.none, 4)

theorem readR_no {b : List UInt8} (h : ¬ (b.length = 128 ∧ bytesR (spOf b) = (b, 0))) : readR b = (Sp.none, 4) := by unfold readR; rw [if_neg h]
theorem readR_yes {b : List UInt8} (h : b.length = 128 ∧ bytesR (spOf b) = (b, 0)) : readR b = (spOf b, 0) := by unfold readR; rw [if_pos h]
theorem bytesR_no {s : Sp} (h : ¬ SpOk s) : bytesR s = ([], 2) := by unfold bytesR; rw [if_neg h]
theorem bytesR_yes {s : Sp} (h : SpOk s) : bytesR s = (full (putS s), 0) := by unfold bytesR; rw [if_pos h]
theorem bytesR_ok {s : Sp} (h : (bytesR s).2 = 0) : SpOk s := by
  by_cases g : SpOk s
  · exact g
  · rw [bytesR_no g] at h; cases h
theorem preS_length (s : Sp) : (preS s).length = 44 := by unfold preS; simp [fld_length]
theorem putS_length (s : Sp) : (putS s).length = 48 := by unfold putS; simp [fld_length, preS_length]
theorem putS_128 (s : Sp) : (full (putS s)).length = 128 := full_length (by rw [putS_length]; decide)
theorem sum_lt (l : List UInt8) : sumC l < 4294967296 := by
  unfold sumC
  exact Nat.xor_lt_two_pow (n := 32) (by omega) (crcL_lt l _ (by omega))
theorem cut_mid {a b c : List UInt8} {n m : Nat} (ha : a.length = n) (hb : b.length = m) : ((a ++ b ++ c).drop n).take m = b := by
  rw [List.append_assoc, List.drop_left' ha, List.take_left' hb]
theorem wrap_num {n : Int} (h : 0 ≤ n ∧ n ≤ 1152921504606846976) : wrap64 (n % 256 ^ 8) = n := by
  have h2 : n % 256 ^ 8 = n := by omega
  rw [h2]
  exact IntWalk.wrap64_in _ ⟨by omega, by omega⟩
theorem spOf_back {s : Sp} (h : SpOk s) : spOf (full (putS s)) = s := by
  obtain ⟨h1, h2, h3, h4, h5, h6, h7⟩ := h
  have h6 : 0 ≤ s.mark ∧ s.mark ≤ 1152921504606846976 := ⟨h6, by omega⟩
  have e : ∃ t, full (putS s) = preS s ++ t := ⟨_, by unfold full putS; rw [List.append_assoc]⟩
  obtain ⟨t, e⟩ := e
  have e1 : ((full (putS s)).drop 4).take 8 = fld s.gen 8 := by
    rw [e]; unfold preS
    simp only [List.append_assoc]
    rw [← List.append_assoc [65, 77, 66, 82]]
    exact cut_mid (by rfl) (fld_length _ _)
  have e2 : ((full (putS s)).drop 12).take 4 = fld (s.root + 1) 4 := by
    rw [e]; unfold preS
    simp only [List.append_assoc]
    rw [← List.append_assoc [65, 77, 66, 82], ← List.append_assoc]
    exact cut_mid (by simp [fld_length]) (fld_length _ _)
  have e3 : ((full (putS s)).drop 16).take 8 = fld s.start 8 := by
    rw [e]; unfold preS
    simp only [List.append_assoc]
    rw [← List.append_assoc [65, 77, 66, 82], ← List.append_assoc, ← List.append_assoc]
    exact cut_mid (by simp [fld_length]) (fld_length _ _)
  have e4 : ((full (putS s)).drop 24).take 4 = fld s.epoch 4 := by
    rw [e]; unfold preS
    simp only [List.append_assoc]
    rw [← List.append_assoc [65, 77, 66, 82], ← List.append_assoc, ← List.append_assoc, ← List.append_assoc]
    exact cut_mid (by simp [fld_length]) (fld_length _ _)
  have e5 : ((full (putS s)).drop 28).take 8 = fld s.last 8 := by
    rw [e]; unfold preS
    simp only [List.append_assoc]
    rw [← List.append_assoc [65, 77, 66, 82], ← List.append_assoc, ← List.append_assoc, ← List.append_assoc, ← List.append_assoc]
    exact cut_mid (by simp [fld_length]) (fld_length _ _)
  have e6 : ((full (putS s)).drop 36).take 8 = fld s.mark 8 := by
    rw [e]; unfold preS
    exact cut_mid (by simp [fld_length]) (fld_length _ _)
  unfold spOf
  rw [e1, e2, e3, e4, e5, e6, numL_fld, numL_fld, numL_fld, numL_fld, numL_fld, numL_fld, wrap_num h1, wrap_num h2, wrap_num h5, wrap_num h6]
  have g1 : (s.root + 1) % 256 ^ 4 = s.root + 1 := by omega
  have g2 : s.epoch % 256 ^ 4 = s.epoch := by omega
  rw [g1, g2, show s.root + 1 - 1 = s.root by omega]
theorem bytes_back {s : Sp} (h : SpOk s) : readR (full (putS s)) = (s, 0) := by
  rw [readR_yes ⟨putS_128 s, by rw [spOf_back h, bytesR_yes h]⟩, spOf_back h]
theorem read_back {b : List UInt8} (h : (readR b).2 = 0) : bytesR (readR b).1 = (b, 0) := by
  by_cases g : b.length = 128 ∧ bytesR (spOf b) = (b, 0)
  · rw [readR_yes g]; exact g.2
  · rw [readR_no g] at h; cases h
theorem read_ok {b : List UInt8} (h : (readR b).2 = 0) : SpOk (readR b).1 := bytesR_ok (by rw [read_back h])
theorem read_cases (b : List UInt8) : (readR b).2 = 0 ∨ readR b = (Sp.none, 4) := by
  by_cases g : b.length = 128 ∧ bytesR (spOf b) = (b, 0)
  · rw [readR_yes g]; exact .inl rfl
  · exact .inr (readR_no g)
theorem spOf_i64 (b : List UInt8) : spI64 (spOf b) := by
  have h2 := numL_lt_of (l := (b.drop 12).take 4) (m := 4) (by simp; omega)
  have h4 := numL_lt_of (l := (b.drop 24).take 4) (m := 4) (by simp; omega)
  have g2 := numL_nonneg ((b.drop 12).take 4)
  have g4 := numL_nonneg ((b.drop 24).take 4)
  have wr : ∀ n, i64Ok (wrap64 n) := fun n => by unfold i64Ok wrap64; omega
  exact ⟨wr _, ⟨by show _ ≤ numL _ - 1; omega, by show numL _ - 1 ≤ _; omega⟩, wr _, ⟨by show _ ≤ numL _; omega, by show numL _ ≤ _; omega⟩, wr _, wr _⟩
end Go.Proofs.Ytgdkgnolkepgdaa
