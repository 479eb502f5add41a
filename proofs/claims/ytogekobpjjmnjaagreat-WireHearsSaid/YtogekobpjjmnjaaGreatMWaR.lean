/- Reading a response, in plain Lean: one reading for the program and for the reference, but for how a text is read. -/
import Derived.Test.YtogekobpjjmnjaaGreatMWrP
import Derived.Test.YtogekobpjjmnjaaGreatMWrO
import Derived.Test.YtogekobpjjmnjaaGreatMWrV
namespace Go.Proofs.YtogekobpjjmnjaaGreat
set_option maxRecDepth 100000
open Go.RowKit Go.Amb
set_option linter.unusedVariables false
/-- How a text is read: of which bytes, from which place on, with which error so far. -/
abbrev TxR := List UInt8 → Nat → Int → Nat × Int × List UInt8
def wTx : TxR := fun s a e => rdText s a e 1048576
def rTx : TxR := fun s a e => rdTxt s a e 4
/-- Things of a kind, one behind the other, as long as they can be read. -/
def rdMany {α : Type} (f : Nat → Int → Nat × Int × α) : Nat → Nat → Int → List α → Nat × Int × List α
  | 0, a, e, l => (a, e, l)
  | n + 1, a, e, l => if e = 0 then rdMany f n (f a 0).1 (f a 0).2.1 (l ++ [(f a 0).2.2]) else (a, e, l)
theorem rdMany_err {α : Type} (f : Nat → Int → Nat × Int × α) (n a : Nat) {e : Int} (l : List α) (h : ¬ e = 0) : rdMany f n a e l = (a, e, l) := by
  cases n with
  | zero => rfl
  | succ n => unfold rdMany; rw [if_neg h]
theorem rdMany_step {α : Type} (f : Nat → Int → Nat × Int × α) (n a : Nat) (l : List α) : rdMany f (n + 1) a 0 l = rdMany f n (f a 0).1 (f a 0).2.1 (l ++ [(f a 0).2.2]) := by
  conv => lhs; unfold rdMany
  exact if_pos rfl
def rdHd (s : List UInt8) (a : Nat) (e : Int) : Nat × Int × Hd :=
  match rdNum s a e 1 with
  | (a1, e1, f) => match rdNum s a1 e1 2 with
  | (a2, e2, z) => match rdTag s a2 e2 with
  | (a3, e3, re, im) => (a3, e3, ⟨z, re, im, decide (f % 2 = 1), decide (f / 2 % 2 = 1)⟩)
def rdTxs (tx : TxR) (s : List UInt8) (a : Nat) (e : Int) : Nat × Int × List (List UInt8) :=
  match rdNum s a e 2 with
  | (a1, e1, n) => rdMany (tx s) n.toNat a1 e1 []
def rdLn (tx : TxR) (s : List UInt8) (a : Nat) (e : Int) : Nat × Int × Ln :=
  match tx s a e with
  | (a1, e1, t) => match rdNum s a1 e1 8 with
  | (a2, e2, i) => match rdNum s a2 e2 1 with
  | (a3, e3, b) => match rdHd s a3 e3 with
  | (a4, e4, h) => (a4, e4, ⟨t, i, decide (b = 1), h⟩)
def rdUp (tx : TxR) (s : List UInt8) (a : Nat) (e : Int) : Nat × Int × Up :=
  match tx s a e with
  | (a1, e1, t) => match rdNum s a1 e1 8 with
  | (a2, e2, i) => (a2, e2, ⟨t, i⟩)
def rdPt (s : List UInt8) (a : Nat) (e : Int) : Nat × Int × Pt :=
  match rdNum s a e 2 with
  | (a1, e1, n) => match rdHd s a1 e1 with
  | (a2, e2, h) => (a2, e2, ⟨n, h⟩)
def rdLns (tx : TxR) (s : List UInt8) (a : Nat) (e : Int) : Nat × Int × List Ln × List UInt8 × Int × Bool :=
  match rdNum s a e 2 with
  | (a1, e1, n) => match rdMany (rdLn tx s) n.toNat a1 e1 [] with
  | (a2, e2, l) => match tx s a2 e2 with
  | (a3, e3, o) => match rdNum s a3 e3 8 with
  | (a4, e4, i) => match rdNum s a4 e4 1 with
  | (a5, e5, b) => (a5, e5, l, o, i, decide (b = 1))
def rdUps (tx : TxR) (s : List UInt8) (a : Nat) (e : Int) : Nat × Int × List Up :=
  match rdNum s a e 2 with
  | (a1, e1, n) => rdMany (rdUp tx s) n.toNat a1 e1 []
def rdPts (s : List UInt8) (a : Nat) (e : Int) : Nat × Int × List Pt :=
  match rdNum s a e 2 with
  | (a1, e1, n) => rdMany (rdPt s) n.toNat a1 e1 []
def readA (tx : TxR) (s : List UInt8) : Nat × Int × Rs :=
  match rdNum s 0 0 1 with
  | (a1, e1, err) => match rdNum s a1 e1 8 with
  | (a2, e2, id) => match rdNum s a2 e2 8 with
  | (a3, e3, time) => match tx s a3 e3 with
  | (a4, e4, text) => match rdTag s a4 e4 with
  | (a5, e5, re, im) => match tx s a5 e5 with
  | (a6, e6, version) => match rdHd s a6 e6 with
  | (a7, e7, head) => match tx s a7 e7 with
  | (a8, e8, body) => match rdTxs tx s a8 e8 with
  | (a9, e9, names) => match rdTxs tx s a9 e9 with
  | (a10, e10, lnames) => match rdTxs tx s a10 e10 with
  | (a11, e11, lpre) => match tx s a11 e11 with
  | (a12, e12, next) => match rdNum s a12 e12 1 with
  | (a13, e13, more) => match rdLns tx s a13 e13 with
  | (a14, e14, lines, lobject, lid, lmore) => match rdUps tx s a14 e14 with
  | (a15, e15, ups) => match rdPts s a15 e15 with
  | (a16, e16, parts) => (a16, e16, ⟨err, id, time, text, re, im, version, head, body, names, lnames, lpre, next, decide (more = 1), lines, lobject, lid, lmore, ups, parts⟩)
/-- The response of bytes, or none. -/
def tellA (tx : TxR) (s : List UInt8) : Option Rs := if rdEnd s (readA tx s).1 (readA tx s).2.1 = 0 ∧ rightA (readA tx s).2.2 ∧ putA (readA tx s).2.2 = s then some (readA tx s).2.2 else none
def zeroA : Rs := ⟨0, 0, 0, [], 0, 0, [], ⟨0, 0, 0, false, false⟩, [], [], [], [], [], false, [], [], 0, false, [], []⟩
end Go.Proofs.YtogekobpjjmnjaaGreat
