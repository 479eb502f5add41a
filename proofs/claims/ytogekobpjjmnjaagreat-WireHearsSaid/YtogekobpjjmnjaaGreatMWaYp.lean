/- What is read of a response, in plain Lean: small texts, 64-bit numbers; what ReadAnswer tells. -/
import Derived.Test.YtogekobpjjmnjaaGreatMWaR
import Derived.Test.YtogekobpjjmnjaaGreatMWaD
import Derived.Test.YtogekobpjjmnjaaGreatMWaF
import Derived.Test.YtogekobpjjmnjaaGreatMWrY
namespace Go.Proofs.YtogekobpjjmnjaaGreat
set_option maxRecDepth 100000
open Go.RowKit Go.Amb
set_option linter.unusedVariables false
def codeA (o : Option Rs) : Int := if o.isSome then 0 else 4
/-- What ReadAnswer tells: a response, its slices in new blocks. -/
def HeardA (tx : TxR) (s : List UInt8) (w : World) : Ending → World → Prop := fun en w' =>
  ∃ S, en = .returned (.tuple #[rsV ((tellA tx s).getD zeroA) S, .int .i64 (codeA (tellA tx s))]) ∧ RsAt w' ((tellA tx s).getD zeroA) S ∧ (∀ k, At S.n k ∨ At S.ln k ∨ At S.lp k ∨ At S.l k ∨ At S.u k ∨ At S.p k → w.heap.size ≤ k ∧ k < w'.heap.size) ∧ Upd Non w w'
theorem wTx_len (s : List UInt8) (a : Nat) (e : Int) : (wTx s a e).2.2.length ≤ s.length := by
  unfold wTx rdText
  split
  · split
    · split
      · split
        · show ((s.drop _).take _).length ≤ _
          rw [List.length_take, List.length_drop]; omega
        · exact Nat.zero_le _
      · exact Nat.zero_le _
    · exact Nat.zero_le _
  · exact Nat.zero_le _
theorem rTx_len (s : List UInt8) (a : Nat) (e : Int) : (rTx s a e).2.2.length ≤ s.length := by
  unfold rTx rdTxt
  split
  · show ((s.drop _).take _).length ≤ _
    rw [List.length_take, List.length_drop]; omega
  · exact Nat.zero_le _
theorem rdNum_i64 (s : List UInt8) (a : Nat) (e : Int) (m : Nat) : i64 (rdNum s a e m).2.2 := by
  unfold rdNum
  split
  · split
    · show i64 (wrap64 _)
      unfold i64 wrap64
      omega
    · show i64 0
      unfold i64; omega
  · show i64 0
    unfold i64; omega
theorem rdMany_all {α : Type} {f : Nat → Int → Nat × Int × α} {p : α → Prop} (hp : ∀ a e, p (f a e).2.2) : ∀ (n a : Nat) (e : Int) (l : List α), (∀ x ∈ l, p x) → ∀ x ∈ (rdMany f n a e l).2.2, p x
  | 0, a, e, l, h => h
  | n + 1, a, e, l, h => by
    unfold rdMany
    split
    · refine rdMany_all hp n _ _ _ fun x hx => ?_
      rcases List.mem_append.1 hx with hx | hx
      · exact h x hx
      · rw [List.mem_singleton.1 hx]; exact hp a 0
    · exact h
theorem readA_small {tx : TxR} (ht : ∀ s a e, (tx s a e).2.2.length ≤ s.length) (s : List UInt8) (hs : s.length ≤ 140737488355328) : smallA (readA tx s).2.2 := by
  have m : ∀ a e, (tx s a e).2.2.length ≤ maxLen := fun a e => by have := ht s a e; unfold maxLen; omega
  have mt : ∀ a e, ∀ x ∈ (rdTxs tx s a e).2.2, x.length ≤ maxLen := fun a e => rdMany_all (p := fun x : List UInt8 => x.length ≤ maxLen) m _ _ _ _ (by simp)
  have ml : ∀ a e, (∀ x ∈ (rdLns tx s a e).2.2.1, x.object.length ≤ maxLen) ∧ (rdLns tx s a e).2.2.2.1.length ≤ maxLen := fun a e =>
    ⟨rdMany_all (p := fun x : Ln => x.object.length ≤ maxLen) (fun a e => m a e) _ _ _ _ (by simp), m _ _⟩
  have mu : ∀ a e, ∀ x ∈ (rdUps tx s a e).2.2, x.object.length ≤ maxLen := fun a e => rdMany_all (p := fun x : Up => x.object.length ≤ maxLen) (fun a e => m a e) _ _ _ _ (by simp)
  refine ⟨?_, mt _ _, mt _ _, mt _ _, (ml _ _).1, mu _ _⟩
  intro x hx
  simp only [List.mem_cons, List.not_mem_nil, or_false] at hx
  rcases hx with rfl | rfl | rfl | rfl | rfl
  · exact m _ _
  · exact m _ _
  · exact m _ _
  · exact m _ _
  · exact (ml _ _).2
theorem readA_ids (tx : TxR) (s : List UInt8) : ids (readA tx s).2.2 :=
  ⟨rdNum_i64 s _ _ 8, rdNum_i64 s _ _ 8, rdNum_i64 s _ _ 8, rdMany_all (p := fun x : Ln => i64 x.id) (fun a e => rdNum_i64 s _ _ 8) _ _ _ _ (by simp), rdMany_all (p := fun x : Up => i64 x.id) (fun a e => rdNum_i64 s _ _ 8) _ _ _ _ (by simp)⟩
end Go.Proofs.YtogekobpjjmnjaaGreat

namespace Go.Proofs.YtogekobpjjmnjaaGreat
set_option maxRecDepth 100000
open Go.RowKit Go.Amb
set_option linter.unusedVariables false
/-- What reads v off the bytes b, wherever they stand. -/
def Piece {α : Type} (f : List UInt8 → Nat → Int → Nat × Int × α) (b : List UInt8) (v : α) : Prop := ∀ pre more, f (pre ++ (b ++ more)) pre.length 0 = ((pre ++ b).length, 0, v)
theorem Piece.step {α : Type} {f : List UInt8 → Nat → Int → Nat × Int × α} {b : List UInt8} {v : α} (h : Piece f b v) {s pre more : List UInt8} (hs : s = pre ++ (b ++ more)) : f s pre.length 0 = ((pre ++ b).length, 0, v) ∧ s = (pre ++ b) ++ more := by
  subst hs
  exact ⟨h pre more, by rw [List.append_assoc]⟩
theorem p256 : (256 : Int) ^ 2 = 65536 := by decide
theorem pcNum {n : Int} {m : Nat} (hm : m ≤ 4) (h0 : 0 ≤ n) (h1 : n < 256 ^ m) : Piece (fun s a e => rdNum s a e m) (fld n m) n := fun pre more => by
  show rdNum _ _ _ _ = _
  rw [num_small pre more n m pre.length rfl hm h0 h1, List.length_append, fld_length]
theorem pcId {n : Int} (h : i64 n) : Piece (fun s a e => rdNum s a e 8) (fld n 8) n := fun pre more => by
  show rdNum _ _ _ _ = _
  rw [num_back pre more n 8 pre.length rfl, id_back h, List.length_append, fld_length]
theorem pcTru (b : Bool) : Piece (fun s a e => rdNum s a e 1) (truF b) (if b then 1 else 0) := by
  cases b
  · exact pcNum (n := 0) (m := 1) (by omega) (by omega) (by decide)
  · exact pcNum (n := 1) (m := 1) (by omega) (by omega) (by decide)
theorem pcTag {re im : Int} (h : tagOk re im) : Piece (fun s a e => rdTag s a e) (fld re 4 ++ fld im 4) (re, im) := fun pre more => by
  have p1 : (256 : Int) ^ 4 = 4294967296 := by decide
  obtain ⟨a1, a2, a3, a4⟩ := h
  obtain ⟨h1, hs1⟩ := (pcNum (n := re) (m := 4) (by omega) a1 (by omega)).step (s := pre ++ ((fld re 4 ++ fld im 4) ++ more)) (pre := pre) (more := fld im 4 ++ more) (by simp only [List.append_assoc])
  obtain ⟨h2, -⟩ := (pcNum (n := im) (m := 4) (by omega) a3 (by omega)).step hs1
  (try dsimp only at h1 h2)
  show rdTag _ _ _ = _
  unfold rdTag
  rw [h1]
  dsimp only
  rw [h2]
  simp only [List.append_assoc]
theorem flags_of (h : Hd) : (0 ≤ flagsH h ∧ flagsH h < 256) ∧ decide (flagsH h % 2 = 1) = h.gone ∧ decide (flagsH h / 2 % 2 = 1) = h.null := by
  obtain ⟨z, a, b, g, n⟩ := h
  cases g <;> cases n <;> (refine ⟨?_, ?_, ?_⟩ <;> (unfold flagsH; simp))
theorem pcHd {h : Hd} (hh : hdOk h) : Piece (fun s a e => rdHd s a e) (putHd h) h := fun pre more => by
  obtain ⟨⟨hz1, hz2⟩, ht⟩ := hh
  obtain ⟨⟨f1, f2⟩, f3, f4⟩ := flags_of h
  obtain ⟨h1, hs1⟩ := (pcNum (n := flagsH h) (m := 1) (by omega) f1 f2).step (s := pre ++ (putHd h ++ more)) (pre := pre) (more := fld h.size 2 ++ ((fld h.re 4 ++ fld h.im 4) ++ more)) (by unfold putHd; simp only [List.append_assoc])
  obtain ⟨h2, hs2⟩ := (pcNum (n := h.size) (m := 2) (by omega) hz1 (by rw [p256]; omega)).step hs1
  obtain ⟨h3, -⟩ := (pcTag ht).step hs2
  (try dsimp only at h1 h2 h3)
  show rdHd _ _ _ = _
  unfold rdHd
  rw [h1]
  dsimp only
  rw [h2]
  dsimp only
  rw [h3]
  dsimp only
  rw [f3, f4]
  unfold putHd
  simp only [List.append_assoc]
theorem many_back {α : Type} {f : List UInt8 → Nat → Int → Nat × Int × α} {p : α → List UInt8} (s : List UInt8) : ∀ (l : List α) (pre more : List UInt8) (acc : List α), (∀ x ∈ l, Piece f (p x) x) → s = pre ++ (l.flatMap p ++ more) →
    rdMany (f s) l.length pre.length 0 acc = ((pre ++ l.flatMap p).length, 0, acc ++ l)
  | [], pre, more, acc, hp, hs => by simp [rdMany]
  | x :: l, pre, more, acc, hp, hs => by
    obtain ⟨h1, hs1⟩ := (hp x (List.mem_cons_self ..)).step (s := s) (pre := pre) (more := l.flatMap p ++ more) (by rw [hs, List.flatMap_cons, List.append_assoc])
    have ih := many_back s l (pre ++ p x) more (acc ++ [x]) (fun y hy => hp y (List.mem_cons_of_mem _ hy)) hs1
    rw [List.length_cons, rdMany_step, h1]
    dsimp only
    rw [ih, List.flatMap_cons]
    simp only [List.append_assoc, List.cons_append, List.nil_append]
theorem len_back {n : Nat} (h : n ≤ 65535) : Piece (fun s a e => rdNum s a e 2) (fld (n : Int) 2) (n : Int) := pcNum (by omega) (by omega) (by rw [p256]; omega)
theorem pcTxs {tx : TxR} (ht : ∀ t : List UInt8, t.length ≤ 1048576 → Piece tx (txtF t 4) t) {l : List (List UInt8)} (h : txOk l) : Piece (fun s a e => rdTxs tx s a e) (putTxs l) l := fun pre more => by
  obtain ⟨h1, hs1⟩ := (len_back h.1).step (s := pre ++ (putTxs l ++ more)) (pre := pre) (more := l.flatMap (fun s => txtF s 4) ++ more) (by unfold putTxs; simp only [List.append_assoc])
  have h2 := many_back (f := tx) (p := fun s => txtF s 4) _ l _ more [] (fun x hx => ht x (h.2 x hx)) hs1
  (try dsimp only at h1)
  show rdTxs _ _ _ _ = _
  unfold rdTxs
  rw [h1]
  dsimp only
  rw [Int.toNat_natCast, h2]
  unfold putTxs
  simp only [List.append_assoc, List.nil_append]
theorem tru_dec (b : Bool) : decide ((if b = true then (1 : Int) else 0) = 1) = b := by cases b <;> rfl
theorem pcLn {tx : TxR} (ht : ∀ t : List UInt8, t.length ≤ 1048576 → Piece tx (txtF t 4) t) {x : Ln} (h : lnOk x) (hi : i64 x.id) : Piece (rdLn tx) (putLn x) x := fun pre more => by
  obtain ⟨h1, hs1⟩ := (ht x.object h.1).step (s := pre ++ (putLn x ++ more)) (pre := pre) (more := fld x.id 8 ++ (truF x.latest ++ (putHd x.head ++ more))) (by unfold putLn; simp only [List.append_assoc])
  obtain ⟨h2, hs2⟩ := (pcId hi).step hs1
  obtain ⟨h3, hs3⟩ := (pcTru x.latest).step hs2
  obtain ⟨h4, -⟩ := (pcHd h.2).step hs3
  (try dsimp only at h1 h2 h3 h4)
  unfold rdLn
  rw [h1]
  dsimp only
  rw [h2]
  dsimp only
  rw [h3]
  dsimp only
  rw [h4]
  dsimp only
  rw [tru_dec]
  unfold putLn
  simp only [List.append_assoc]
theorem pcUp {tx : TxR} (ht : ∀ t : List UInt8, t.length ≤ 1048576 → Piece tx (txtF t 4) t) {x : Up} (h : upOk x) (hi : i64 x.id) : Piece (rdUp tx) (putUp x) x := fun pre more => by
  obtain ⟨h1, hs1⟩ := (ht x.object h).step (s := pre ++ (putUp x ++ more)) (pre := pre) (more := fld x.id 8 ++ more) (by unfold putUp; simp only [List.append_assoc])
  obtain ⟨h2, -⟩ := (pcId hi).step hs1
  (try dsimp only at h1 h2)
  unfold rdUp
  rw [h1]
  dsimp only
  rw [h2]
  unfold putUp
  simp only [List.append_assoc]
theorem pcPt {x : Pt} (h : ptOk x) : Piece rdPt (putPt x) x := fun pre more => by
  obtain ⟨h1, hs1⟩ := (pcNum (n := x.n) (m := 2) (by omega) h.1.1 (by rw [p256]; have := h.1.2; omega)).step (s := pre ++ (putPt x ++ more)) (pre := pre) (more := putHd x.head ++ more) (by unfold putPt; simp only [List.append_assoc])
  obtain ⟨h2, -⟩ := (pcHd h.2).step hs1
  (try dsimp only at h1 h2)
  unfold rdPt
  rw [h1]
  dsimp only
  rw [h2]
  unfold putPt
  simp only [List.append_assoc]
theorem pcLns {tx : TxR} (ht : ∀ t : List UInt8, t.length ≤ 1048576 → Piece tx (txtF t 4) t) {l : List Ln} {o : List UInt8} {id : Int} (more_ : Bool) (hn : l.length ≤ 65535) (hl : ∀ x ∈ l, lnOk x) (hi : ∀ x ∈ l, i64 x.id) (ho : o.length ≤ 1048576) (hid : i64 id) :
    Piece (fun s a e => rdLns tx s a e) (putLns l o id more_) (l, o, id, more_) := fun pre more => by
  obtain ⟨h1, hs1⟩ := (len_back hn).step (s := pre ++ (putLns l o id more_ ++ more)) (pre := pre) (more := l.flatMap putLn ++ (txtF o 4 ++ (fld id 8 ++ (truF more_ ++ more)))) (by unfold putLns; simp only [List.append_assoc])
  have h2 := many_back (f := rdLn tx) (p := putLn) _ l _ _ [] (fun x hx => pcLn ht (hl x hx) (hi x hx)) hs1
  replace hs1 := hs1.trans (List.append_assoc _ _ _).symm
  obtain ⟨h3, hs3⟩ := (ht o ho).step hs1
  obtain ⟨h4, hs4⟩ := (pcId hid).step hs3
  obtain ⟨h5, -⟩ := (pcTru more_).step hs4
  (try dsimp only at h1 h3 h4 h5)
  show rdLns _ _ _ _ = _
  unfold rdLns
  rw [h1]
  dsimp only
  rw [Int.toNat_natCast, h2]
  dsimp only
  rw [h3]
  dsimp only
  rw [h4]
  dsimp only
  rw [h5]
  dsimp only
  rw [tru_dec]
  unfold putLns
  simp only [List.append_assoc, List.nil_append]
theorem pcUps {tx : TxR} (ht : ∀ t : List UInt8, t.length ≤ 1048576 → Piece tx (txtF t 4) t) {l : List Up} (hn : l.length ≤ 65535) (hl : ∀ x ∈ l, upOk x) (hi : ∀ x ∈ l, i64 x.id) : Piece (fun s a e => rdUps tx s a e) (fld (l.length : Int) 2 ++ l.flatMap putUp) l := fun pre more => by
  obtain ⟨h1, hs1⟩ := (len_back hn).step (s := pre ++ ((fld (l.length : Int) 2 ++ l.flatMap putUp) ++ more)) (pre := pre) (more := l.flatMap putUp ++ more) (by simp only [List.append_assoc])
  have h2 := many_back (f := rdUp tx) (p := putUp) _ l _ _ [] (fun x hx => pcUp ht (hl x hx) (hi x hx)) hs1
  (try dsimp only at h1)
  show rdUps _ _ _ _ = _
  unfold rdUps
  rw [h1]
  dsimp only
  rw [Int.toNat_natCast, h2]
  simp only [List.append_assoc, List.nil_append]
theorem pcPts {l : List Pt} (hn : l.length ≤ 65535) (hl : ∀ x ∈ l, ptOk x) : Piece (fun s a e => rdPts s a e) (fld (l.length : Int) 2 ++ l.flatMap putPt) l := fun pre more => by
  obtain ⟨h1, hs1⟩ := (len_back hn).step (s := pre ++ ((fld (l.length : Int) 2 ++ l.flatMap putPt) ++ more)) (pre := pre) (more := l.flatMap putPt ++ more) (by simp only [List.append_assoc])
  have h2 := many_back (f := rdPt) (p := putPt) _ l _ _ [] (fun x hx => pcPt (hl x hx)) hs1
  (try dsimp only at h1)
  show rdPts _ _ _ = _
  unfold rdPts
  rw [h1]
  dsimp only
  rw [Int.toNat_natCast, h2]
  simp only [List.append_assoc, List.nil_append]
theorem readA_put {tx : TxR} (ht : ∀ t : List UInt8, t.length ≤ 1048576 → Piece tx (txtF t 4) t) {r : Rs} (hr : rightA r) (hid : ids r) : readA tx (putA r) = ((putA r).length, 0, r) := by
  obtain ⟨k1, k2, k3, k4, k5, k6, k7, ⟨k8a, k8b⟩, ⟨k9a, k9b⟩, ⟨k10a, k10b⟩⟩ := hr
  obtain ⟨i1, i2, i3, i4, i5⟩ := hid
  have l1 : r.text.length ≤ 1048576 := k4.2 _ (by simp)
  have l2 : r.version.length ≤ 1048576 := k4.2 _ (by simp)
  have l3 : r.body.length ≤ 1048576 := k4.2 _ (by simp)
  have l4 : r.next.length ≤ 1048576 := k4.2 _ (by simp)
  have l5 : r.lobject.length ≤ 1048576 := k4.2 _ (by simp)
  obtain ⟨s, hs⟩ : ∃ s, putA r = s := ⟨_, rfl⟩
  have hs0 : s = [] ++ putA r := hs.symm
  rw [hs]
  unfold putA at hs0
  obtain ⟨h1, hs1⟩ := (pcNum (n := r.err) (m := 1) (by omega) k1.1 (by omega)).step hs0
  obtain ⟨h2, hs2⟩ := (pcId i1).step hs1
  obtain ⟨h3, hs3⟩ := (pcId i2).step hs2
  obtain ⟨h4, hs4⟩ := (ht _ l1).step hs3
  rw [← List.append_assoc (fld r.re 4)] at hs4
  obtain ⟨h5, hs5⟩ := (pcTag k2).step hs4
  obtain ⟨h6, hs6⟩ := (ht _ l2).step hs5
  obtain ⟨h7, hs7⟩ := (pcHd k3).step hs6
  obtain ⟨h8, hs8⟩ := (ht _ l3).step hs7
  obtain ⟨h9, hs9⟩ := (pcTxs ht k5).step hs8
  obtain ⟨h10, hs10⟩ := (pcTxs ht k6).step hs9
  obtain ⟨h11, hs11⟩ := (pcTxs ht k7).step hs10
  obtain ⟨h12, hs12⟩ := (ht _ l4).step hs11
  obtain ⟨h13, hs13⟩ := (pcTru r.more).step hs12
  obtain ⟨h14, hs14⟩ := (pcLns ht r.lmore k8a k8b i4 l5 i3).step hs13
  obtain ⟨h15, hs15⟩ := (pcUps ht k9a k9b i5).step hs14
  rw [← List.append_nil (fld (r.parts.length : Int) 2 ++ r.parts.flatMap putPt)] at hs15
  obtain ⟨h16, hs16⟩ := (pcPts k10a k10b).step hs15
  rw [List.append_nil] at hs16
  rw [← hs16] at h16
  clear hs0 hs1 hs2 hs3 hs4 hs5 hs6 hs7 hs8 hs9 hs10 hs11 hs12 hs13 hs14 hs15 hs16 hs
  (try dsimp only at h1 h2 h3 h4 h5 h6 h7 h8 h9 h10 h11 h12 h13 h14 h15 h16)
  have h1' : rdNum s 0 0 1 = _ := h1
  unfold readA
  rw [h1']
  dsimp only
  rw [h2]
  dsimp only
  rw [h3]
  dsimp only
  rw [h4]
  dsimp only
  rw [h5]
  dsimp only
  rw [h6]
  dsimp only
  rw [h7]
  dsimp only
  rw [h8]
  dsimp only
  rw [h9]
  dsimp only
  rw [h10]
  dsimp only
  rw [h11]
  dsimp only
  rw [h12]
  dsimp only
  rw [h13]
  dsimp only
  rw [h14]
  dsimp only
  rw [h15]
  dsimp only
  rw [h16]
  dsimp only
  rw [tru_dec]
theorem tell_put {tx : TxR} (ht : ∀ t : List UInt8, t.length ≤ 1048576 → Piece tx (txtF t 4) t) {r : Rs} (hr : rightA r) (hid : ids r) : tellA tx (putA r) = some r := by
  unfold tellA
  rw [readA_put ht hr hid]
  exact if_pos ⟨by unfold rdEnd; rw [if_pos rfl, if_neg (Nat.lt_irrefl _)], hr, rfl⟩
theorem tell_some {tx : TxR} {s : List UInt8} {r : Rs} (h : tellA tx s = some r) : rightA r ∧ putA r = s ∧ ids r := by
  have hi := readA_ids tx s
  unfold tellA at h
  by_cases hc : rdEnd s (readA tx s).1 (readA tx s).2.1 = 0 ∧ rightA (readA tx s).2.2 ∧ putA (readA tx s).2.2 = s
  · rw [if_pos hc] at h
    injection h with h
    subst h
    exact ⟨hc.2.1, hc.2.2, hi⟩
  · rw [if_neg hc] at h
    cases h
theorem four_bytes {t : List UInt8} (h : t.length ≤ 1048576) : 0 ≤ (t.length : Int) ∧ (t.length : Int) < 256 ^ 4 := by
  have : (256 : Int) ^ 4 = 4294967296 := by decide
  omega
theorem wTx_pc (t : List UInt8) (h : t.length ≤ 1048576) : Piece wTx (txtF t 4) t := fun pre more => by
  have h4 := four_bytes h
  have hl : pre.length + 4 ≤ (pre ++ (txtF t 4 ++ more)).length := by rw [List.length_append, List.length_append, txtF_len]; omega
  have hn : numL (((pre ++ (txtF t 4 ++ more)).drop pre.length).take 4) = (t.length : Int) := by
    have e := drop_mid pre (fld (t.length : Int) 4) (t ++ more)
    rw [fld_length, ← List.append_assoc (fld (t.length : Int) 4)] at e
    show numL (List.take 4 (List.drop pre.length (pre ++ (fld (t.length : Int) 4 ++ t ++ more)))) = _
    rw [e, numL_fld, Int.emod_eq_of_lt h4.1 h4.2]
  show rdText _ _ 0 1048576 = _
  rw [rdText_ok hl (by rw [hn]; omega) (by rw [hn]; rw [List.length_append, List.length_append, txtF_len]; omega), hn, Int.toNat_natCast]
  have e2 := drop_mid (pre ++ fld (t.length : Int) 4) t more
  rw [List.length_append, fld_length] at e2
  have e3 : pre ++ (txtF t 4 ++ more) = (pre ++ fld (t.length : Int) 4) ++ (t ++ more) := by unfold txtF; simp only [List.append_assoc]
  rw [e3, e2]
  unfold txtF
  simp only [List.length_append, fld_length]
  rw [Nat.add_assoc]
theorem rTx_pc (t : List UInt8) (h : t.length ≤ 1048576) : Piece rTx (txtF t 4) t := fun pre more => by
  have h4 := four_bytes h
  have hk := num_small pre (t ++ more) (t.length : Int) 4 pre.length rfl (by omega) h4.1 h4.2
  have e3 : pre ++ (txtF t 4 ++ more) = pre ++ (fld (t.length : Int) 4 ++ (t ++ more)) := by unfold txtF; simp only [List.append_assoc]
  show rdTxt _ _ 0 4 = _
  unfold rdTxt
  rw [e3, hk]
  dsimp only
  rw [if_pos ⟨rfl, by simp only [List.length_append, fld_length]; omega⟩, Int.toNat_natCast]
  have e2 := drop_mid (pre ++ fld (t.length : Int) 4) t more
  rw [List.length_append, fld_length] at e2
  have e4 : pre ++ (fld (t.length : Int) 4 ++ (t ++ more)) = (pre ++ fld (t.length : Int) 4) ++ (t ++ more) := by simp only [List.append_assoc]
  rw [e4, e2]
  unfold txtF
  simp only [List.length_append, fld_length]
  rw [Nat.add_assoc]
/-- The program hears what the reference hears. -/
theorem tell_eq (s : List UInt8) : tellA wTx s = tellA rTx s := by
  cases h : tellA wTx s with
  | some r =>
    obtain ⟨h1, h2, h3⟩ := tell_some h
    rw [← h2, tell_put rTx_pc h1 h3]
  | none =>
    cases h' : tellA rTx s with
    | none => rfl
    | some r =>
      obtain ⟨h1, h2, h3⟩ := tell_some h'
      rw [← h2, tell_put wTx_pc h1 h3] at h
      cases h
end Go.Proofs.YtogekobpjjmnjaaGreat
