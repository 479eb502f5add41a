/- The document's example of layer 11, in plain Lean. -/
import Derived.Test.YtgdkgnolkepgdaaMSuJ
import Derived.Test.YtgdkgnolkepgdaaMBlE
namespace Go.Proofs.Ytgdkgnolkepgdaa
set_option maxRecDepth 100000
open Go.RowKit Go.Amb
set_option linter.unusedVariables false
set_option linter.unusedSimpArgs false

def ds (a b : List UInt8) (f : Int) : Dk := ⟨[a, b], [], f, false⟩
theorem find_two (a b : List UInt8) (f : Int) : findR (ds a b f) = if (readR a).2 ≠ 0 ∧ (readR b).2 ≠ 0 then (Sp.none, 0, 4) else
    if (readR a).2 ≠ 0 ∨ ((readR b).2 = 0 ∧ (readR a).1.gen < (readR b).1.gen) then ((readR b).1, 1, 0) else ((readR a).1, 0, 0) := by
  have h0 : (ds a b f).within 0 = 0 := by simp [ds, Dk.within]
  have h1 : (ds a b f).within 1 = 0 := by simp [ds, Dk.within]
  have e0 : (ds a b f).has 0 = a := by simp [ds, Dk.has, lastAt]
  have e1 : (ds a b f).has 1 = b := by simp [ds, Dk.has, lastAt]
  unfold findR
  rw [h0, h1, e0, e1]
  simp
theorem write_0 (a b p : List UInt8) (hp : p.length ≤ 128) : (ds a b (-1)).write 0 p = (⟨[a, b], [(full p, 0)], -1, false⟩, 0) := by
  have h : ¬ 128 < p.length := by omega
  simp [ds, Dk.write, Dk.within, Dk.burn, h]
theorem write_1 (a b p : List UInt8) (hp : p.length ≤ 128) : (ds a b (-1)).write 1 p = (⟨[a, b], [(full p, 1)], -1, false⟩, 0) := by
  have h : ¬ 128 < p.length := by omega
  simp [ds, Dk.write, Dk.within, Dk.burn, h]
theorem flush_0 (a b q : List UInt8) : (⟨[a, b], [(q, 0)], -1, false⟩ : Dk).flush = (ds q b (-1), 0) := by
  simp [ds, Dk.flush, Dk.burn, Dk.keep, keepK]
theorem flush_1 (a b q : List UInt8) : (⟨[a, b], [(q, 1)], -1, false⟩ : Dk).flush = (ds a q (-1), 0) := by
  simp [ds, Dk.flush, Dk.burn, Dk.keep, keepK]
theorem arm_0 (a b : List UInt8) : (ds a b (-1)).arm 0 = (ds a b 0, 0) := by
  have h : max (-1) (0 : Int) = 0 := by decide
  simp [ds, Dk.arm, h]
theorem write_dead (a b p : List UInt8) (hp : p.length ≤ 128) : (ds a b 0).write 0 p = (⟨[a, b], [], 0, true⟩, 20) := by
  have h : ¬ 128 < p.length := by omega
  simp [ds, Dk.write, Dk.within, Dk.burn, h]
theorem crash_dead (a b : List UInt8) : (⟨[a, b], [], 0, true⟩ : Dk).crash [] = ds a b (-1) := by simp [ds, Dk.crash, Dk.keep, keepK]
def nul128 : List UInt8 := List.replicate 128 0
theorem read_nul : readR nul128 = (Sp.none, 4) := by
  refine readR_no fun e => ?_
  have h := e.2
  by_cases hok : SpOk (spOf nul128)
  · rw [bytesR_yes hok] at h
    injection h with h1 h2
    have h3 : (full (putS (spOf nul128)))[0]? = some 65 := by simp [full, putS, preS]
    rw [h1] at h3
    simp [nul128] at h3
  · rw [bytesR_no hok] at h
    injection h with h1 h2
    cases h2
def sp5 : Sp := ⟨0, 5, 0, 0, 0, 0⟩
def sp6 : Sp := ⟨1, 6, 0, 0, 0, 0⟩
def b5 : List UInt8 := full (putS sp5)
def b6 : List UInt8 := full (putS sp6)
theorem ok5 : SpOk sp5 := by decide
theorem ok6 : SpOk sp6 := by decide
theorem read5 : readR b5 = (sp5, 0) := bytes_back ok5
theorem read6 : readR b6 = (sp6, 0) := bytes_back ok6
theorem new2 : Dk.new 2 = ds nul128 nul128 (-1) := rfl
theorem find_a : findR (Dk.new 2) = (Sp.none, 0, 4) := by rw [new2, find_two, read_nul]; simp
theorem find_b : findR (ds b5 nul128 (-1)) = (sp5, 0, 0) := by rw [find_two, read_nul, read5]; simp
theorem find_c (f : Int) : findR (ds b5 b6 f) = (sp6, 1, 0) := by rw [find_two, read5, read6]; simp [sp5, sp6]
theorem save_a : saveR (Dk.new 2) ⟨0, 5, 0, 0, 0, 0⟩ = (ds b5 nul128 (-1), sp5, 0) := by
  have hG : nextG (Dk.new 2) = 0 := by unfold nextG; rw [find_a]; simp
  have hw : (Dk.new 2).write (0 % 2) (putS ((⟨0, 5, 0, 0, 0, 0⟩ : Sp).at_ 0)) = (⟨[nul128, nul128], [(b5, 0)], -1, false⟩, 0) := by rw [new2]; exact write_0 _ _ _ (by rw [putS_length]; decide)
  rw [save_ok (s := ⟨0, 5, 0, 0, 0, 0⟩) (G := 0) (by rw [find_a]; simp) hG (by decide) ok5 (by rw [hw]) (by rw [hw, flush_0]), hw, flush_0]
  rfl
theorem save_b : saveR (ds b5 nul128 (-1)) ⟨0, 6, 0, 0, 0, 0⟩ = (ds b5 b6 (-1), sp6, 0) := by
  have hG : nextG (ds b5 nul128 (-1)) = 1 := by unfold nextG; rw [find_b]; rfl
  have hw : (ds b5 nul128 (-1)).write (1 % 2) (putS ((⟨0, 6, 0, 0, 0, 0⟩ : Sp).at_ 1)) = (⟨[b5, nul128], [(b6, 1)], -1, false⟩, 0) := write_1 _ _ _ (by rw [putS_length]; decide)
  rw [save_ok (s := ⟨0, 6, 0, 0, 0, 0⟩) (G := 1) (by rw [find_b]; simp) hG (by decide) ok6 (by rw [hw]) (by rw [hw, flush_1]), hw, flush_1]
  rfl
theorem save_c : saveR (ds b5 b6 0) ⟨0, 7, 0, 0, 0, 0⟩ = (⟨[b5, b6], [], 0, true⟩, Sp.none, 20) := by
  have hG : nextG (ds b5 b6 0) = 2 := by unfold nextG; rw [find_c]; rfl
  have hw : (ds b5 b6 0).write (2 % 2) (putS ((⟨0, 7, 0, 0, 0, 0⟩ : Sp).at_ 2)) = (⟨[b5, b6], [], 0, true⟩, 20) := write_dead _ _ _ (by rw [putS_length]; decide)
  rw [save_w (s := ⟨0, 7, 0, 0, 0, 0⟩) (G := 2) (by rw [find_c]; simp) hG (by decide) (by decide) (by rw [hw]; decide), hw]
end Go.Proofs.Ytgdkgnolkepgdaa
