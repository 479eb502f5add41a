/- Requests and their bytes, in plain Lean. -/
import Derived.Test.YtogekobpjjmnjaaGreatMFPlain
namespace Go.Amb
set_option linter.unusedVariables false
/-- A request. -/
structure Rq where
  kind : Int
  session : Int
  bucket : List UInt8
  object : List UInt8
  version : List UInt8
  pre : List UInt8
  delim : List UInt8
  body : List UInt8
  ck : Int
  re : Int
  im : Int
  id : Int
  n : Int
  parts : List Int
/-- The letters of a kind's fields. -/
def lets (k : Int) : List UInt8 :=
  if k = 2 then [73] else if k = 3 then [83] else if k = 4 then [83] else if k = 5 then [83, 66] else if k = 6 then [83, 66] else if k = 7 then [83] else if k = 8 then [83, 66, 78] else if k = 9 then [83, 66] else
  if k = 10 then [83, 66, 79, 67, 88] else if k = 11 then [83, 66, 79, 86] else if k = 12 then [83, 66, 79, 86] else if k = 13 then [83, 66, 79, 86] else if k = 14 then [83, 66, 79, 80, 68, 78] else
  if k = 15 then [83, 66, 79, 80, 73, 78] else if k = 16 then [83, 66, 79] else if k = 17 then [83, 66, 79, 73, 78, 88] else if k = 18 then [83, 66, 79, 73, 76] else if k = 19 then [83, 66, 79, 73] else
  if k = 20 then [83, 66] else if k = 21 then [83, 66, 79, 73] else if k = 22 then [73] else []
def tagOk (re im : Int) : Prop := 0 ≤ re ∧ re < 1048573 ∧ 0 ≤ im ∧ im < 1048573
instance (re im : Int) : Decidable (tagOk re im) := inferInstanceAs (Decidable (_ ∧ _))
/-- The parts fit, whatever the kind. -/
def fitsQ (q : Rq) : Prop := (1 ≤ q.kind ∧ q.kind ≤ 23) ∧ (0 ≤ q.session ∧ q.session ≤ 255) ∧ (0 ≤ q.n ∧ q.n ≤ 65535) ∧ (0 ≤ q.ck ∧ q.ck ≤ 255) ∧ tagOk q.re q.im ∧ (q.ck = 2 ∨ (q.re = 0 ∧ q.im = 0)) ∧ q.parts.length ≤ 255 ∧ q.body.length ≤ 65535 ∧
  (q.bucket.length ≤ 255 ∧ q.object.length ≤ 255 ∧ q.version.length ≤ 255 ∧ q.pre.length ≤ 255 ∧ q.delim.length ≤ 255) ∧ ∀ p ∈ q.parts, 0 ≤ p ∧ p ≤ 255
/-- What has no letter is empty. -/
def onlyQ (q : Rq) (l : List UInt8) : Prop := (83 ∈ l ∨ q.session = 0) ∧ (66 ∈ l ∨ q.bucket = []) ∧ (79 ∈ l ∨ q.object = []) ∧ (86 ∈ l ∨ q.version = []) ∧ (80 ∈ l ∨ q.pre = []) ∧ (68 ∈ l ∨ q.delim = []) ∧ (67 ∈ l ∨ (q.ck = 0 ∧ q.re = 0 ∧ q.im = 0)) ∧ (73 ∈ l ∨ q.id = 0) ∧ (78 ∈ l ∨ q.n = 0) ∧ (76 ∈ l ∨ q.parts = []) ∧ (88 ∈ l ∨ q.body = [])
def rightQ (q : Rq) : Prop := fitsQ q ∧ onlyQ q (lets q.kind)
def txtF (s : List UInt8) (m : Nat) : List UInt8 := fld (s.length : Int) m ++ s
/-- A field's bytes. -/
def putF (q : Rq) (c : UInt8) : List UInt8 :=
  if c = 83 then fld q.session 1 else if c = 66 then txtF q.bucket 1 else if c = 79 then txtF q.object 1 else if c = 86 then txtF q.version 1 else if c = 80 then txtF q.pre 1 else if c = 68 then txtF q.delim 1 else
  if c = 67 then fld q.ck 1 ++ (if q.ck = 2 then fld q.re 4 ++ fld q.im 4 else []) else if c = 73 then fld q.id 8 else if c = 78 then fld q.n 2 else if c = 76 then fld (q.parts.length : Int) 1 ++ q.parts.flatMap (fun p => fld p 1) else
  if c = 88 then txtF q.body 2 else []
def putQ (q : Rq) : List UInt8 := fld q.kind 1 ++ (lets q.kind).flatMap (putF q)
/-- A request, a field of it taken away. -/
def blankQ (q : Rq) (c : UInt8) : Rq :=
  if c = 83 then { q with session := 0 } else if c = 66 then { q with bucket := [] } else if c = 79 then { q with object := [] } else if c = 86 then { q with version := [] } else if c = 80 then { q with pre := [] } else if c = 68 then { q with delim := [] } else
  if c = 67 then { q with ck := 0, re := 0, im := 0 } else if c = 73 then { q with id := 0 } else if c = 78 then { q with n := 0 } else if c = 76 then { q with parts := [] } else if c = 88 then { q with body := [] } else q
def emptyQ (q : Rq) : Prop := q.session = 0 ∧ q.bucket = [] ∧ q.object = [] ∧ q.version = [] ∧ q.pre = [] ∧ q.delim = [] ∧ (q.ck = 0 ∧ q.re = 0 ∧ q.im = 0) ∧ q.id = 0 ∧ q.n = 0 ∧ q.parts = [] ∧ q.body = []
theorem blank_one (q : Rq) (c : UInt8) (l : List UInt8) : onlyQ (blankQ q c) l ↔ onlyQ q (c :: l) := by
  have g : ∀ x : UInt8, c ≠ x → (x ∈ l ↔ x ∈ c :: l) := fun x hx => ⟨.tail _, fun h => by
    rcases List.mem_cons.1 h with e | e
    · exact absurd e.symm hx
    · exact e⟩
  unfold onlyQ
  by_cases h : c = 83 ∨ c = 66 ∨ c = 79 ∨ c = 86 ∨ c = 80 ∨ c = 68 ∨ c = 67 ∨ c = 73 ∨ c = 78 ∨ c = 76 ∨ c = 88
  · rcases h with rfl | rfl | rfl | rfl | rfl | rfl | rfl | rfl | rfl | rfl | rfl
    all_goals
      refine and_congr ?_ (and_congr ?_ (and_congr ?_ (and_congr ?_ (and_congr ?_ (and_congr ?_ (and_congr ?_ (and_congr ?_ (and_congr ?_ (and_congr ?_ ?_)))))))))
      all_goals first | exact iff_of_true (.inr rfl) (.inl (List.mem_cons_self ..)) | exact iff_of_true (.inr ⟨rfl, rfl, rfl⟩) (.inl (List.mem_cons_self ..)) | exact or_congr (g _ (by decide)) Iff.rfl
  · have n : ∀ x : UInt8, (c = x → False) → c ≠ x := fun _ h => h
    have e : blankQ q c = q := by
      unfold blankQ
      rw [if_neg (fun e => h (by simp [e])), if_neg (fun e => h (by simp [e])), if_neg (fun e => h (by simp [e])), if_neg (fun e => h (by simp [e])), if_neg (fun e => h (by simp [e])), if_neg (fun e => h (by simp [e])), if_neg (fun e => h (by simp [e])), if_neg (fun e => h (by simp [e])), if_neg (fun e => h (by simp [e])), if_neg (fun e => h (by simp [e])), if_neg (fun e => h (by simp [e]))]
    rw [e]
    refine and_congr ?_ (and_congr ?_ (and_congr ?_ (and_congr ?_ (and_congr ?_ (and_congr ?_ (and_congr ?_ (and_congr ?_ (and_congr ?_ (and_congr ?_ ?_)))))))))
    all_goals exact or_congr (g _ (fun e => h (by simp [e]))) Iff.rfl
theorem blank_only : ∀ (l : List UInt8) (q : Rq), emptyQ (l.foldl blankQ q) ↔ onlyQ q l
  | [], q => by
    unfold emptyQ onlyQ
    refine and_congr ?_ (and_congr ?_ (and_congr ?_ (and_congr ?_ (and_congr ?_ (and_congr ?_ (and_congr ?_ (and_congr ?_ (and_congr ?_ (and_congr ?_ ?_)))))))))
    all_goals exact ⟨.inr, fun h => h.resolve_left (by simp)⟩
  | c :: l, q => by
    rw [List.foldl_cons, blank_only l (blankQ q c)]
    exact blank_one q c l
end Go.Amb

namespace Go.Amb
set_option linter.unusedVariables false
structure Hd where
  size : Int
  re : Int
  im : Int
  gone : Bool
  null : Bool
structure Ln where
  object : List UInt8
  id : Int
  latest : Bool
  head : Hd
structure Up where
  object : List UInt8
  id : Int
structure Pt where
  n : Int
  head : Hd
structure Rs where
  err : Int
  id : Int
  time : Int
  text : List UInt8
  re : Int
  im : Int
  version : List UInt8
  head : Hd
  body : List UInt8
  names : List (List UInt8)
  lnames : List (List UInt8)
  lpre : List (List UInt8)
  next : List UInt8
  more : Bool
  lines : List Ln
  lobject : List UInt8
  lid : Int
  lmore : Bool
  ups : List Up
  parts : List Pt
def hdOk (h : Hd) : Prop := (0 ≤ h.size ∧ h.size ≤ 65535) ∧ tagOk h.re h.im
def txOk (l : List (List UInt8)) : Prop := l.length ≤ 65535 ∧ ∀ s ∈ l, s.length ≤ 1048576
def lnOk (x : Ln) : Prop := x.object.length ≤ 1048576 ∧ hdOk x.head
def upOk (x : Up) : Prop := x.object.length ≤ 1048576
def ptOk (x : Pt) : Prop := (0 ≤ x.n ∧ x.n ≤ 65535) ∧ hdOk x.head
def rightA (r : Rs) : Prop := (0 ≤ r.err ∧ r.err ≤ 20) ∧ tagOk r.re r.im ∧ hdOk r.head ∧ txOk [r.text, r.version, r.body, r.next, r.lobject] ∧ txOk r.names ∧ txOk r.lnames ∧ txOk r.lpre ∧
  (r.lines.length ≤ 65535 ∧ ∀ x ∈ r.lines, lnOk x) ∧ (r.ups.length ≤ 65535 ∧ ∀ x ∈ r.ups, upOk x) ∧ (r.parts.length ≤ 65535 ∧ ∀ x ∈ r.parts, ptOk x)
instance (h : Hd) : Decidable (hdOk h) := inferInstanceAs (Decidable (_ ∧ _))
instance (l : List (List UInt8)) : Decidable (txOk l) := inferInstanceAs (Decidable (_ ∧ _))
instance (x : Ln) : Decidable (lnOk x) := inferInstanceAs (Decidable (_ ∧ _))
instance (x : Up) : Decidable (upOk x) := inferInstanceAs (Decidable (_ ≤ _))
instance (x : Pt) : Decidable (ptOk x) := inferInstanceAs (Decidable (_ ∧ _))
instance (r : Rs) : Decidable (rightA r) := inferInstanceAs (Decidable (_ ∧ _))
/-- Ids and times are 64-bit numbers (and, of a head, the size; and the tags). -/
def i64 (n : Int) : Prop := -9223372036854775808 ≤ n ∧ n ≤ 9223372036854775807
def hd64 (h : Hd) : Prop := i64 h.size ∧ i64 h.re ∧ i64 h.im
def ids (r : Rs) : Prop := i64 r.id ∧ i64 r.time ∧ i64 r.lid ∧ (∀ x ∈ r.lines, i64 x.id) ∧ (∀ x ∈ r.ups, i64 x.id)
def flagsH (h : Hd) : Int := (if h.gone then 1 else 0) + (if h.null then 2 else 0)
def putHd (h : Hd) : List UInt8 := fld (flagsH h) 1 ++ (fld h.size 2 ++ (fld h.re 4 ++ fld h.im 4))
def truF (b : Bool) : List UInt8 := [if b then 1 else 0]
def putTxs (l : List (List UInt8)) : List UInt8 := fld (l.length : Int) 2 ++ l.flatMap (fun s => txtF s 4)
def putLn (x : Ln) : List UInt8 := txtF x.object 4 ++ (fld x.id 8 ++ (truF x.latest ++ putHd x.head))
def putUp (x : Up) : List UInt8 := txtF x.object 4 ++ fld x.id 8
def putPt (x : Pt) : List UInt8 := fld x.n 2 ++ putHd x.head
def putLns (l : List Ln) (o : List UInt8) (id : Int) (more : Bool) : List UInt8 := fld (l.length : Int) 2 ++ (l.flatMap putLn ++ (txtF o 4 ++ (fld id 8 ++ truF more)))
def putA (r : Rs) : List UInt8 :=
  fld r.err 1 ++ (fld r.id 8 ++ (fld r.time 8 ++ (txtF r.text 4 ++ (fld r.re 4 ++ (fld r.im 4 ++ (txtF r.version 4 ++ (putHd r.head ++ (txtF r.body 4 ++ (putTxs r.names ++ (putTxs r.lnames ++ (putTxs r.lpre ++ (txtF r.next 4 ++ (truF r.more ++
    (putLns r.lines r.lobject r.lid r.lmore ++ ((fld (r.ups.length : Int) 2 ++ r.ups.flatMap putUp) ++ (fld (r.parts.length : Int) 2 ++ r.parts.flatMap putPt))))))))))))))))
theorem txtF_len (s : List UInt8) (m : Nat) : (txtF s m).length = m + s.length := by unfold txtF; rw [List.length_append, fld_length]
theorem putHd_len (h : Hd) : (putHd h).length = 11 := by unfold putHd; simp only [List.length_append, fld_length]
theorem truF_len (b : Bool) : (truF b).length = 1 := rfl
theorem flat_most {α : Type} (f : α → List UInt8) (m : Nat) : ∀ l : List α, (∀ x ∈ l, (f x).length ≤ m) → (l.flatMap f).length ≤ l.length * m
  | [], h => by simp
  | x :: l, h => by
    have h1 := flat_most f m l (fun y hy => h y (List.mem_cons_of_mem _ hy))
    have h2 := h x (List.mem_cons_self ..)
    rw [List.flatMap_cons, List.length_append, List.length_cons, Nat.succ_mul]
    omega
theorem putTxs_most {l : List (List UInt8)} (h : txOk l) : (putTxs l).length ≤ 68719800000 := by
  have h1 := flat_most (fun s => txtF s 4) 1048580 l (fun s hs => by have := h.2 s hs; rw [txtF_len]; omega)
  have h2 := h.1
  unfold putTxs
  rw [List.length_append, fld_length]
  have : l.length * 1048580 ≤ 65535 * 1048580 := Nat.mul_le_mul_right _ h2
  omega
theorem putLn_most {x : Ln} (h : lnOk x) : (putLn x).length ≤ 1048600 := by
  have := h.1
  unfold putLn
  simp only [List.length_append, fld_length, txtF_len, putHd_len, truF_len]
  omega
theorem putUp_most {x : Up} (h : upOk x) : (putUp x).length ≤ 1048600 := by
  have h : x.object.length ≤ 1048576 := h
  unfold putUp
  simp only [List.length_append, fld_length, txtF_len]
  omega
theorem putPt_len (x : Pt) : (putPt x).length = 13 := by
  unfold putPt
  simp only [List.length_append, fld_length, putHd_len]
end Go.Amb
