/- Plain: Right's conditions. -/
import Derived.Test.YtogekobpjjmnjaaGreatMWrH
namespace Go.Proofs.YtogekobpjjmnjaaGreat
set_option maxRecDepth 100000
open Go.RowKit Go.Amb
theorem isEmpty_dec (l : List UInt8) : l.isEmpty = decide (l = []) := by cases l <;> rfl
theorem cond2 (kind session n ck re im : Int) (pl bl : Nat) : ((((((((((((decide (kind < 1) || decide (23 < kind)) || decide (session < 0)) || decide (255 < session)) || decide (n < 0)) || decide (65535 < n)) || decide (ck < 0)) || decide (255 < ck)) || (!decide (tagOk re im))) || (ck != 2 && (!decide (re = 0) || !decide (im = 0)))) || decide ((255 : Int) < (pl : Int))) || decide ((65535 : Int) < (bl : Int))) = false) ↔
    ((1 ≤ kind ∧ kind ≤ 23) ∧ (0 ≤ session ∧ session ≤ 255) ∧ (0 ≤ n ∧ n ≤ 65535) ∧ (0 ≤ ck ∧ ck ≤ 255) ∧ tagOk re im ∧ (ck = 2 ∨ (re = 0 ∧ im = 0)) ∧ pl ≤ 255 ∧ bl ≤ 65535) := by
  have hc : (ck != 2 && (!decide (re = 0) || !decide (im = 0))) = false ↔ (ck = 2 ∨ (re = 0 ∧ im = 0)) := by
    by_cases h1 : ck = 2 <;> by_cases h2 : re = 0 <;> by_cases h3 : im = 0 <;> simp [h1, h2, h3]
  have ht : (!decide (tagOk re im)) = false ↔ tagOk re im := by simp
  simp only [Bool.or_eq_false_iff, hc, ht, decide_eq_false_iff_not]
  constructor
  · rintro ⟨⟨⟨⟨⟨⟨⟨⟨⟨⟨⟨h1, h2⟩, h3⟩, h4⟩, h5⟩, h6⟩, h7⟩, h8⟩, h9⟩, h10⟩, h11⟩, h12⟩
    exact ⟨⟨by omega, by omega⟩, ⟨by omega, by omega⟩, ⟨by omega, by omega⟩, ⟨by omega, by omega⟩, h9, h10, by omega, by omega⟩
  · rintro ⟨⟨h1, h2⟩, ⟨h3, h4⟩, ⟨h5, h6⟩, ⟨h7, h8⟩, h9, h10, h11, h12⟩
    exact ⟨⟨⟨⟨⟨⟨⟨⟨⟨⟨⟨by omega, by omega⟩, by omega⟩, by omega⟩, by omega⟩, by omega⟩, by omega⟩, by omega⟩, h9⟩, h10⟩, by omega⟩, by omega⟩
theorem cond4 (b o v p d : Nat) : (((((!decide (b ≤ 255)) || (!decide (o ≤ 255))) || (!decide (v ≤ 255))) || (!decide (p ≤ 255))) || (!decide (d ≤ 255))) = false ↔ (b ≤ 255 ∧ o ≤ 255 ∧ v ≤ 255 ∧ p ≤ 255 ∧ d ≤ 255) := by
  simp only [Bool.or_eq_false_iff, Bool.not_eq_false', decide_eq_true_eq, and_assoc]
theorem cond11 (q : Rq) (l : List UInt8) : ((((((((((((decide ((83 : UInt8) ∈ l) || (q.session == 0)) && (decide ((66 : UInt8) ∈ l) || decide (q.bucket = []))) && (decide ((79 : UInt8) ∈ l) || decide (q.object = []))) && (decide ((86 : UInt8) ∈ l) || decide (q.version = []))) && (decide ((80 : UInt8) ∈ l) || decide (q.pre = []))) && (decide ((68 : UInt8) ∈ l) || decide (q.delim = []))) && (decide ((67 : UInt8) ∈ l) || (decide (q.ck = 0) && (decide (q.re = 0) && decide (q.im = 0))))) && (decide ((73 : UInt8) ∈ l) || (q.id == 0))) && (decide ((78 : UInt8) ∈ l) || (q.n == 0))) && (decide ((76 : UInt8) ∈ l) || ((q.parts.length : Int) == 0))) && (decide ((88 : UInt8) ∈ l) || decide (q.body = [])))) = decide (onlyQ q l) := by
  rw [Bool.eq_iff_iff]
  have hp : ((q.parts.length : Int) = 0) ↔ q.parts = [] := by
    cases q.parts with
    | nil => simp
    | cons a b => simp; omega
  simp only [Bool.and_eq_true, Bool.or_eq_true, decide_eq_true_eq, beq_iff_eq, onlyQ, and_assoc, hp]
  exact (decide_eq_true_iff).symm
end Go.Proofs.YtogekobpjjmnjaaGreat
