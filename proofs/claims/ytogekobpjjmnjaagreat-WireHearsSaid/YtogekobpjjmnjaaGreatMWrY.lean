/- The reference's reading of a request, in plain Lean: it stands as the program's does, or both have failed. -/
import Derived.Test.YtogekobpjjmnjaaGreatMWrV
import Derived.Test.YtogekobpjjmnjaaGreatMFPlain
import Derived.Test.YtogekobpjjmnjaaGreatMWrJ
namespace Go.Proofs.YtogekobpjjmnjaaGreat
set_option maxRecDepth 100000
open Go.RowKit Go.Amb
set_option linter.unusedVariables false
def getR (s : List UInt8) (c : UInt8) (x : Rq × Nat × Int) : Rq × Nat × Int :=
  if c = 66 then ({ x.1 with bucket := (rdTxt s x.2.1 x.2.2 1).2.2 }, (rdTxt s x.2.1 x.2.2 1).1, (rdTxt s x.2.1 x.2.2 1).2.1) else
  if c = 79 then ({ x.1 with object := (rdTxt s x.2.1 x.2.2 1).2.2 }, (rdTxt s x.2.1 x.2.2 1).1, (rdTxt s x.2.1 x.2.2 1).2.1) else
  if c = 86 then ({ x.1 with version := (rdTxt s x.2.1 x.2.2 1).2.2 }, (rdTxt s x.2.1 x.2.2 1).1, (rdTxt s x.2.1 x.2.2 1).2.1) else
  if c = 80 then ({ x.1 with pre := (rdTxt s x.2.1 x.2.2 1).2.2 }, (rdTxt s x.2.1 x.2.2 1).1, (rdTxt s x.2.1 x.2.2 1).2.1) else
  if c = 68 then ({ x.1 with delim := (rdTxt s x.2.1 x.2.2 1).2.2 }, (rdTxt s x.2.1 x.2.2 1).1, (rdTxt s x.2.1 x.2.2 1).2.1) else
  if c = 88 then ({ x.1 with body := (rdTxt s x.2.1 x.2.2 2).2.2 }, (rdTxt s x.2.1 x.2.2 2).1, (rdTxt s x.2.1 x.2.2 2).2.1) else getQ s c x
theorem txt_str {s : List UInt8} {a m : Nat} {e : Int} (ha : a ≤ s.length) (hm : m ≤ 4) : (rdStr s a e m = rdTxt s a e m ∧ (rdStr s a e m).2.1 = 0) ∨ ((rdStr s a e m).2.1 ≠ 0 ∧ (rdTxt s a e m).2.1 ≠ 0) := by
  obtain ⟨z, hz, hz2⟩ := rdNum_nat s a e m hm
  have hle := rdNum_le (e := e) (m := m) ha
  unfold rdStr rdTxt
  rw [hz, Int.toNat_natCast]
  generalize rdNum s a e m = x at *
  obtain ⟨a1, e1, n1⟩ := x
  dsimp only at *
  by_cases he : e1 = 0
  · subst he
    by_cases hn : (z : Int) ≤ (s.length : Int) - (a1 : Int)
    · rw [if_pos ⟨rfl, hn⟩, rdRest_ok (by omega)]
      exact .inl ⟨rfl, rfl⟩
    · rw [if_neg (fun h => hn h.2), rdRest_short (by omega) hle]
      exact .inr ⟨show (3 : Int) ≠ 0 by decide, show (3 : Int) ≠ 0 by decide⟩
  · rw [if_neg (fun h => he h.1), rdRest_err _ he]
    exact .inr ⟨he, show (3 : Int) ≠ 0 by decide⟩
/-- As the program's reading, or both have failed. -/
def AsQ (s : List UInt8) (x y : Rq × Nat × Int) : Prop := (x = y ∧ x.2.2 = 0 ∧ x.2.1 ≤ s.length) ∨ (x.2.2 ≠ 0 ∧ y.2.2 ≠ 0)
theorem rdParts_err (s : List UInt8) : ∀ (n a : Nat) (e : Int) (ps : List Int), ¬ e = 0 → rdParts s n a e ps = (a, e, ps)
  | 0, a, e, ps, h => rfl
  | n + 1, a, e, ps, h => by
    unfold rdParts
    rw [if_neg h]
    exact rdParts_err s n a e ps h
theorem getQ_err (s : List UInt8) (c : UInt8) (x : Rq × Nat × Int) (h : ¬ x.2.2 = 0) : (getQ s c x).2.2 ≠ 0 := by
  have n : ∀ m, rdNum s x.2.1 x.2.2 m = (x.2.1, x.2.2, 0) := fun m => rdNum_err h
  have t : ∀ m, (rdStr s x.2.1 x.2.2 m).2.1 = x.2.2 := fun m => by
    unfold rdStr
    rw [n, rdRest_err _ h]
  have g : (rdTag s x.2.1 x.2.2).2.1 = x.2.2 := by
    unfold rdTag
    rw [n]
    dsimp only
    rw [n]
  unfold getQ
  rw [n, n, n]
  dsimp only
  rw [rdParts_err s _ _ _ _ h]
  repeat' (first | exact h | (show (rdStr s x.2.1 x.2.2 _).2.1 ≠ 0; rw [t]; exact h) | (show (rdTag s x.2.1 x.2.2).2.1 ≠ 0; rw [g]; exact h) | refine hit3 (Q := fun y => y.2.2 ≠ 0) _ ?_ ?_)
theorem getR_err (s : List UInt8) (c : UInt8) (x : Rq × Nat × Int) (h : ¬ x.2.2 = 0) : (getR s c x).2.2 ≠ 0 := by
  have t : ∀ m, (rdTxt s x.2.1 x.2.2 m).2.1 = 3 := fun m => by
    unfold rdTxt
    rw [rdNum_err h, if_neg (fun e => h e.1)]
  unfold getR
  repeat' (first | exact getQ_err s c x h | (show (rdTxt s x.2.1 x.2.2 _).2.1 ≠ 0; rw [t]; decide) | refine hit3 (Q := fun y => y.2.2 ≠ 0) _ ?_ ?_)
theorem rdRest_le {s : List UInt8} {a : Nat} (e : Int) (n : Nat) (h : a ≤ s.length) : (rdRest s a e n).1 ≤ s.length := by
  unfold rdRest
  split
  · exact h
  · split
    · split
      · assumption
      · exact Nat.le_refl _
    · exact h
theorem rdParts_le (s : List UInt8) : ∀ (n a : Nat) (e : Int) (ps : List Int), a ≤ s.length → (rdParts s n a e ps).1 ≤ s.length
  | 0, a, e, ps, h => h
  | n + 1, a, e, ps, h => by
    unfold rdParts
    split
    · exact rdParts_le s n _ _ _ (rdNum_le h)
    · exact rdParts_le s n a e ps h
theorem getQ_le (s : List UInt8) (c : UInt8) (x : Rq × Nat × Int) (h : x.2.1 ≤ s.length) : (getQ s c x).2.1 ≤ s.length := by
  have n : ∀ m, (rdNum s x.2.1 x.2.2 m).1 ≤ s.length := fun m => rdNum_le h
  have t : ∀ m, (rdStr s x.2.1 x.2.2 m).1 ≤ s.length := fun m => rdRest_le _ _ (n m)
  have g : (rdTag s (rdNum s x.2.1 x.2.2 1).1 (rdNum s x.2.1 x.2.2 1).2.1).1 ≤ s.length := rdNum_le (rdNum_le (n 1))
  unfold getQ
  repeat' (first | exact n _ | exact t _ | exact g | exact rdParts_le s _ _ _ _ (n 1) | exact h | refine hit3 (Q := fun y => y.2.1 ≤ s.length) _ ?_ ?_)
theorem asQ_self {s : List UInt8} {x : Rq × Nat × Int} (h : x.2.1 ≤ s.length) : AsQ s x x := by
  by_cases he : x.2.2 = 0
  · exact .inl ⟨rfl, he, h⟩
  · exact .inr ⟨he, he⟩
theorem asQ_txt {s : List UInt8} (x : Rq × Nat × Int) (m : Nat) (hm : m ≤ 4) (f : List UInt8 → Rq) (h : x.2.1 ≤ s.length) :
    AsQ s (f (rdStr s x.2.1 x.2.2 m).2.2, (rdStr s x.2.1 x.2.2 m).1, (rdStr s x.2.1 x.2.2 m).2.1) (f (rdTxt s x.2.1 x.2.2 m).2.2, (rdTxt s x.2.1 x.2.2 m).1, (rdTxt s x.2.1 x.2.2 m).2.1) := by
  rcases txt_str (e := x.2.2) (m := m) h hm with ⟨h1, h2⟩ | ⟨h1, h2⟩
  · rw [← h1]
    exact .inl ⟨rfl, h2, rdRest_le _ _ (rdNum_le h)⟩
  · exact .inr ⟨h1, h2⟩
theorem asQ_step {s : List UInt8} {x y : Rq × Nat × Int} (c : UInt8) (h : AsQ s x y) : AsQ s (getQ s c x) (getR s c y) := by
  rcases h with ⟨rfl, h1, h2⟩ | ⟨h1, h2⟩
  · by_cases hc : c = 66 ∨ c = 79 ∨ c = 86 ∨ c = 80 ∨ c = 68 ∨ c = 88
    · rcases hc with rfl | rfl | rfl | rfl | rfl | rfl
      · exact asQ_txt x 1 (by omega) (fun t => { x.1 with bucket := t }) h2
      · exact asQ_txt x 1 (by omega) (fun t => { x.1 with object := t }) h2
      · exact asQ_txt x 1 (by omega) (fun t => { x.1 with version := t }) h2
      · exact asQ_txt x 1 (by omega) (fun t => { x.1 with pre := t }) h2
      · exact asQ_txt x 1 (by omega) (fun t => { x.1 with delim := t }) h2
      · exact asQ_txt x 2 (by omega) (fun t => { x.1 with body := t }) h2
    · have e : getR s c x = getQ s c x := by
        unfold getR
        rw [if_neg (fun e => hc (by simp [e])), if_neg (fun e => hc (by simp [e])), if_neg (fun e => hc (by simp [e])), if_neg (fun e => hc (by simp [e])), if_neg (fun e => hc (by simp [e])), if_neg (fun e => hc (by simp [e]))]
      rw [e]
      exact asQ_self (getQ_le s c x h2)
  · exact .inr ⟨getQ_err s c x h1, getR_err s c y h2⟩
def getAllR (s : List UInt8) (l : List UInt8) (x : Rq × Nat × Int) : Rq × Nat × Int := l.foldl (fun x c => getR s c x) x
theorem asQ_all {s : List UInt8} : ∀ (l : List UInt8) {x y : Rq × Nat × Int}, AsQ s x y → AsQ s (getAll s l x) (getAllR s l y)
  | [], x, y, h => h
  | c :: l, x, y, h => asQ_all l (asQ_step c h)
def lastR (s : List UInt8) : Rq × Nat × Int := getAllR s (lets (rdNum s 0 0 1).2.2) (kindQ s)
theorem lastR_as (s : List UInt8) : AsQ s (lastQ s) (lastR s) := asQ_all _ (asQ_self (rdNum_le (Nat.zero_le _)))
end Go.Proofs.YtogekobpjjmnjaaGreat

namespace Go.Proofs.YtogekobpjjmnjaaGreat
set_option maxRecDepth 100000
open Go.RowKit Go.Amb
set_option linter.unusedVariables false
/-- The bytes between two places. -/
def cut (s : List UInt8) (a b : Nat) : List UInt8 := (s.drop a).take (b - a)
theorem cut_app {s : List UInt8} {a b c : Nat} (h1 : a ≤ b) (h2 : b ≤ c) : cut s a b ++ cut s b c = cut s a c := by
  unfold cut
  have e : s.drop b = (s.drop a).drop (b - a) := by rw [List.drop_drop, Nat.add_sub_cancel' h1]
  rw [e, show c - a = (b - a) + (c - b) by omega, List.take_add]
theorem fld_wrap (l : List UInt8) (m : Nat) (h : l.length = m) (hm : m ≤ 8) : fld (wrap64 (numL l)) m = l := by
  subst h
  have e : fld (wrap64 (numL l)) l.length = fld (numL l) l.length := by
    rw [← fld_mod (wrap64 (numL l)) l.length 8 hm, ← fld_mod (numL l) l.length 8 hm]
    congr 1
    unfold wrap64
    simp only [pow8]
    omega
  rw [e, fld_numL]
/-- A number that was read has these bytes. -/
theorem num_cut {s : List UInt8} {a m a' : Nat} {e n : Int} (hm : m ≤ 8) (h : rdNum s a e m = (a', 0, n)) : e = 0 ∧ a' = a + m ∧ a + m ≤ s.length ∧ cut s a a' = fld n m := by
  unfold rdNum at h
  by_cases he : e = 0
  · rw [if_pos he] at h
    by_cases hl : a + m ≤ s.length
    · rw [if_pos hl] at h
      injection h with h1 h2
      injection h2 with h3 h4
      subst h1
      refine ⟨he, rfl, hl, ?_⟩
      rw [← h4]
      unfold cut
      rw [Nat.add_sub_cancel_left, fld_wrap _ _ (by rw [List.length_take, List.length_drop]; omega) hm]
    · rw [if_neg hl] at h
      injection h with h1 h2
      injection h2 with h3 h4
      cases h3
  · rw [if_neg he] at h
    injection h with h1 h2
    injection h2 with h3 h4
    exact absurd h3 he
theorem str_cut {s : List UInt8} {a m a' : Nat} {e : Int} {t : List UInt8} (hm : m ≤ 4) (h : rdStr s a e m = (a', 0, t)) : e = 0 ∧ a ≤ a' ∧ a' ≤ s.length ∧ cut s a a' = txtF t m := by
  unfold rdStr at h
  obtain ⟨z, hz, hz2⟩ := rdNum_nat s a e m hm
  rw [hz, Int.toNat_natCast] at h
  obtain ⟨a1, e1, n1, hx⟩ : ∃ a1 e1 n1, rdNum s a e m = (a1, e1, n1) := ⟨_, _, _, rfl⟩
  rw [hx] at h hz
  dsimp only at h hz
  by_cases he : e1 = 0
  · subst he
    obtain ⟨he, rfl, hl, hc⟩ := num_cut (by omega) hx
    by_cases hn : a + m + z ≤ s.length
    · rw [rdRest_ok hn] at h
      injection h with h1 h2
      injection h2 with h3 h4
      subst h1; subst h4
      refine ⟨he, by omega, hn, ?_⟩
      have e2 : cut s (a + m) (a + m + z) = (s.drop (a + m)).take z := by unfold cut; rw [Nat.add_sub_cancel_left]
      rw [← cut_app (b := a + m) (by omega) (by omega), hc, e2]
      unfold txtF
      rw [List.length_take, List.length_drop, Nat.min_eq_left (by omega), hz]
    · rw [rdRest_short hn hl] at h
      injection h with h1 h2
      injection h2 with h3 h4
      cases h3
  · rw [rdRest_err _ he] at h
    injection h with h1 h2
    injection h2 with h3 h4
    exact absurd h3 he
theorem cut_self (s : List UInt8) (a : Nat) : cut s a a = [] := by unfold cut; rw [Nat.sub_self, List.take_zero]
theorem parts_cut (s : List UInt8) : ∀ (n a : Nat) (e : Int) (ps : List Int) (a' : Nat) (qs : List Int), rdParts s n a e ps = (a', 0, qs) → e = 0 ∧ a ≤ a' ∧ ∃ ts : List Int, qs = ps ++ ts ∧ ts.length = n ∧ cut s a a' = ts.flatMap (fun p => fld p 1)
  | 0, a, e, ps, a', qs, h => by
    injection h with h1 h2
    injection h2 with h3 h4
    subst h1
    exact ⟨h3, Nat.le_refl _, [], by rw [h4, List.append_nil], rfl, cut_self _ _⟩
  | n + 1, a, e, ps, a', qs, h => by
    by_cases he : e = 0
    · subst he
      unfold rdParts at h
      rw [if_pos rfl] at h
      obtain ⟨a1, e1, n1, hx⟩ : ∃ a1 e1 n1, rdNum s a 0 1 = (a1, e1, n1) := ⟨_, _, _, rfl⟩
      rw [hx] at h
      obtain ⟨h1, h2, ts, h3, h4, h5⟩ := parts_cut s n _ _ _ _ _ h
      dsimp only at h1 h2 h3 h5
      subst h1
      obtain ⟨-, rfl, hl, hc⟩ := num_cut (by omega) hx
      refine ⟨rfl, by omega, n1 :: ts, ?_, by rw [List.length_cons, h4], ?_⟩
      · rw [h3, List.append_assoc]; rfl
      · rw [← cut_app (b := a + 1) (by omega) h2, hc, h5]; rfl
    · rw [rdParts_err s _ _ _ _ he] at h
      injection h with h1 h2
      injection h2 with h3 h4
      exact absurd h3 he
theorem getQ_cut {s : List UInt8} {c : UInt8} (hc : c ∈ lets11) {x : Rq × Nat × Int} (hp : c = 76 → x.1.parts = []) {q' : Rq} {a' : Nat} (h : getQ s c x = (q', a', 0)) : x.2.2 = 0 ∧ x.2.1 ≤ a' ∧ cut s x.2.1 a' = putF q' c := by
  have N : ∀ m (f : Int → Rq), m ≤ 8 → (f (rdNum s x.2.1 x.2.2 m).2.2, (rdNum s x.2.1 x.2.2 m).1, (rdNum s x.2.1 x.2.2 m).2.1) = (q', a', (0 : Int)) → x.2.2 = 0 ∧ x.2.1 ≤ a' ∧ ∃ n, q' = f n ∧ cut s x.2.1 a' = fld n m := fun m f hm h => by
    obtain ⟨a1, e1, n1, hx⟩ : ∃ a1 e1 n1, rdNum s x.2.1 x.2.2 m = (a1, e1, n1) := ⟨_, _, _, rfl⟩
    rw [hx] at h
    injection h with h1 h2
    injection h2 with h3 h4
    dsimp only at h1 h3 h4
    subst h3; subst h4
    obtain ⟨he, rfl, hl, hcc⟩ := num_cut hm hx
    exact ⟨he, by omega, n1, h1.symm, hcc⟩
  have T : ∀ m (f : List UInt8 → Rq), m ≤ 4 → (f (rdStr s x.2.1 x.2.2 m).2.2, (rdStr s x.2.1 x.2.2 m).1, (rdStr s x.2.1 x.2.2 m).2.1) = (q', a', (0 : Int)) → x.2.2 = 0 ∧ x.2.1 ≤ a' ∧ ∃ t, q' = f t ∧ cut s x.2.1 a' = txtF t m := fun m f hm h => by
    obtain ⟨a1, e1, n1, hx⟩ : ∃ a1 e1 n1, rdStr s x.2.1 x.2.2 m = (a1, e1, n1) := ⟨_, _, _, rfl⟩
    rw [hx] at h
    injection h with h1 h2
    injection h2 with h3 h4
    dsimp only at h1 h3 h4
    subst h3; subst h4
    obtain ⟨he, hl, -, hcc⟩ := str_cut hm hx
    exact ⟨he, hl, n1, h1.symm, hcc⟩
  simp only [lets11, List.mem_cons, List.not_mem_nil, or_false] at hc
  rcases hc with rfl | rfl | rfl | rfl | rfl | rfl | rfl | rfl | rfl | rfl | rfl
  · obtain ⟨h1, h2, n, rfl, h4⟩ := N 1 (fun n => { x.1 with session := n }) (by omega) h
    exact ⟨h1, h2, h4⟩
  · obtain ⟨h1, h2, n, rfl, h4⟩ := T 1 (fun n => { x.1 with bucket := n }) (by omega) h
    exact ⟨h1, h2, h4⟩
  · obtain ⟨h1, h2, n, rfl, h4⟩ := T 1 (fun n => { x.1 with object := n }) (by omega) h
    exact ⟨h1, h2, h4⟩
  · obtain ⟨h1, h2, n, rfl, h4⟩ := T 1 (fun n => { x.1 with version := n }) (by omega) h
    exact ⟨h1, h2, h4⟩
  · obtain ⟨h1, h2, n, rfl, h4⟩ := T 1 (fun n => { x.1 with pre := n }) (by omega) h
    exact ⟨h1, h2, h4⟩
  · obtain ⟨h1, h2, n, rfl, h4⟩ := T 1 (fun n => { x.1 with delim := n }) (by omega) h
    exact ⟨h1, h2, h4⟩
  · change (if (rdNum s x.2.1 x.2.2 1).2.2 = 2 then ({ x.1 with ck := 2, re := (rdTag s (rdNum s x.2.1 x.2.2 1).1 (rdNum s x.2.1 x.2.2 1).2.1).2.2.1, im := (rdTag s (rdNum s x.2.1 x.2.2 1).1 (rdNum s x.2.1 x.2.2 1).2.1).2.2.2 }, (rdTag s (rdNum s x.2.1 x.2.2 1).1 (rdNum s x.2.1 x.2.2 1).2.1).1, (rdTag s (rdNum s x.2.1 x.2.2 1).1 (rdNum s x.2.1 x.2.2 1).2.1).2.1) else ({ x.1 with ck := (rdNum s x.2.1 x.2.2 1).2.2 }, (rdNum s x.2.1 x.2.2 1).1, (rdNum s x.2.1 x.2.2 1).2.1)) = (q', a', (0 : Int)) at h
    obtain ⟨a1, e1, n1, hx⟩ : ∃ a1 e1 n1, rdNum s x.2.1 x.2.2 1 = (a1, e1, n1) := ⟨_, _, _, rfl⟩
    rw [hx] at h
    dsimp only at h
    by_cases hn : n1 = 2
    · rw [if_pos hn] at h
      subst hn
      unfold rdTag at h
      obtain ⟨a2, e2, n2, hy⟩ : ∃ a2 e2 n2, rdNum s a1 e1 4 = (a2, e2, n2) := ⟨_, _, _, rfl⟩
      rw [hy] at h
      dsimp only at h
      obtain ⟨a3, e3, n3, hz⟩ : ∃ a3 e3 n3, rdNum s a2 e2 4 = (a3, e3, n3) := ⟨_, _, _, rfl⟩
      rw [hz] at h
      dsimp only at h
      injection h with h1 h2
      injection h2 with h3 h4
      subst h1; subst h3; subst h4
      obtain ⟨rfl, rfl, -, c3⟩ := num_cut (by omega) hz
      obtain ⟨rfl, rfl, -, c2⟩ := num_cut (by omega) hy
      obtain ⟨he, rfl, -, c1⟩ := num_cut (by omega) hx
      refine ⟨he, by omega, ?_⟩
      show _ = fld 2 1 ++ (fld n2 4 ++ fld n3 4)
      rw [← c1, ← c2, ← c3, cut_app (by omega) (by omega), cut_app (by omega) (by omega)]
    · rw [if_neg hn] at h
      injection h with h1 h2
      injection h2 with h3 h4
      subst h1; subst h3; subst h4
      obtain ⟨he, rfl, -, c1⟩ := num_cut (by omega) hx
      refine ⟨he, by omega, ?_⟩
      show _ = fld n1 1 ++ (if n1 = 2 then _ else _)
      rw [if_neg hn, List.append_nil, c1]
  · obtain ⟨h1, h2, n, rfl, h4⟩ := N 8 (fun n => { x.1 with id := n }) (by omega) h
    exact ⟨h1, h2, h4⟩
  · obtain ⟨h1, h2, n, rfl, h4⟩ := N 2 (fun n => { x.1 with n := n }) (by omega) h
    exact ⟨h1, h2, h4⟩
  · change ({ x.1 with parts := (rdParts s (rdNum s x.2.1 x.2.2 1).2.2.toNat (rdNum s x.2.1 x.2.2 1).1 (rdNum s x.2.1 x.2.2 1).2.1 x.1.parts).2.2 }, (rdParts s (rdNum s x.2.1 x.2.2 1).2.2.toNat (rdNum s x.2.1 x.2.2 1).1 (rdNum s x.2.1 x.2.2 1).2.1 x.1.parts).1, (rdParts s (rdNum s x.2.1 x.2.2 1).2.2.toNat (rdNum s x.2.1 x.2.2 1).1 (rdNum s x.2.1 x.2.2 1).2.1 x.1.parts).2.1) = (q', a', (0 : Int)) at h
    obtain ⟨z, hz, hz2⟩ := rdNum_nat s x.2.1 x.2.2 1 (by omega)
    obtain ⟨a1, e1, n1, hx⟩ : ∃ a1 e1 n1, rdNum s x.2.1 x.2.2 1 = (a1, e1, n1) := ⟨_, _, _, rfl⟩
    rw [hx] at h hz
    dsimp only at h hz
    subst hz
    rw [Int.toNat_natCast, hp rfl] at h
    obtain ⟨a2, e2, qs, hy⟩ : ∃ a2 e2 qs, rdParts s z a1 e1 [] = (a2, e2, qs) := ⟨_, _, _, rfl⟩
    rw [hy] at h
    dsimp only at h
    injection h with h1 h2
    injection h2 with h3 h4
    subst h1; subst h3; subst h4
    obtain ⟨rfl, hl, ts, h5, h6, c2⟩ := parts_cut s _ _ _ _ _ _ hy
    obtain ⟨he, rfl, -, c1⟩ := num_cut (by omega) hx
    rw [List.nil_append] at h5
    subst h5
    refine ⟨he, by omega, ?_⟩
    show _ = fld (qs.length : Int) 1 ++ qs.flatMap (fun p => fld p 1)
    rw [h6, ← c1, ← c2, cut_app (by omega) (by omega)]
  · obtain ⟨h1, h2, n, rfl, h4⟩ := T 2 (fun n => { x.1 with body := n }) (by omega) h
    exact ⟨h1, h2, h4⟩
theorem getQ_67 (s : List UInt8) (x : Rq × Nat × Int) : ∃ k r i, (getQ s 67 x).1 = { x.1 with ck := k, re := r, im := i } := by
  by_cases h : (rdNum s x.2.1 x.2.2 1).2.2 = 2
  · refine ⟨2, (rdTag s (rdNum s x.2.1 x.2.2 1).1 (rdNum s x.2.1 x.2.2 1).2.1).2.2.1, (rdTag s (rdNum s x.2.1 x.2.2 1).1 (rdNum s x.2.1 x.2.2 1).2.1).2.2.2, ?_⟩
    change (if (rdNum s x.2.1 x.2.2 1).2.2 = 2 then _ else _ : Rq × Nat × Int).1 = _
    rw [if_pos h]
  · refine ⟨(rdNum s x.2.1 x.2.2 1).2.2, x.1.re, x.1.im, ?_⟩
    change (if (rdNum s x.2.1 x.2.2 1).2.2 = 2 then _ else _ : Rq × Nat × Int).1 = _
    rw [if_neg h]
theorem getQ_keep {s : List UInt8} {c d : UInt8} (hd : d ∈ lets11) (hc : c ∈ lets11) (h : d ≠ c) (x : Rq × Nat × Int) : putF (getQ s d x).1 c = putF x.1 c := by
  obtain ⟨k, r, i, e67⟩ := getQ_67 s x
  simp only [lets11, List.mem_cons, List.not_mem_nil, or_false] at hd hc
  rcases hd with rfl | rfl | rfl | rfl | rfl | rfl | rfl | rfl | rfl | rfl | rfl
  all_goals
    rcases hc with rfl | rfl | rfl | rfl | rfl | rfl | rfl | rfl | rfl | rfl | rfl
    all_goals first | exact absurd rfl h | (rw [e67]; rfl) | rfl
theorem getQ_noparts {s : List UInt8} {d : UInt8} (h : d ≠ 76) (x : Rq × Nat × Int) : (getQ s d x).1.parts = x.1.parts := by
  unfold getQ
  rw [if_neg h]
  repeat' (first | rfl | refine hit3 (Q := fun y => y.1.parts = x.1.parts) _ ?_ ?_)
theorem getAll_keep {s : List UInt8} {c : UInt8} (hc : c ∈ lets11) : ∀ (l : List UInt8) (x : Rq × Nat × Int), (∀ d ∈ l, d ∈ lets11) → c ∉ l → putF (getAll s l x).1 c = putF x.1 c
  | [], x, _, _ => rfl
  | d :: l, x, hl, hn => (getAll_keep hc l (getQ s d x) (fun e he => hl e (List.mem_cons_of_mem _ he)) (fun h => hn (List.mem_cons_of_mem _ h))).trans (getQ_keep (hl d (List.mem_cons_self ..)) hc (fun e => hn (e ▸ List.mem_cons_self ..)) x)
theorem getAll_cut {s : List UInt8} : ∀ (l : List UInt8) {x : Rq × Nat × Int} {q' : Rq} {a' : Nat}, (∀ d ∈ l, d ∈ lets11) → l.Nodup → (76 ∈ l → x.1.parts = []) → getAll s l x = (q', a', 0) → x.2.2 = 0 ∧ x.2.1 ≤ a' ∧ cut s x.2.1 a' = l.flatMap (putF q')
  | [], x, q', a', _, _, _, h => by
    obtain ⟨q, a, e⟩ := x
    injection h with h1 h2
    injection h2 with h3 h4
    subst h3
    exact ⟨h4, Nat.le_refl _, cut_self _ _⟩
  | c :: l, x, q', a', hl, hd, hp, h => by
    have hd' := List.nodup_cons.1 hd
    have hc := hl c (List.mem_cons_self ..)
    have hl' : ∀ d ∈ l, d ∈ lets11 := fun d h => hl d (List.mem_cons_of_mem _ h)
    have hp2 : 76 ∈ l → (getQ s c x).1.parts = [] := fun h76 => by
      have hc76 : c ≠ 76 := fun e => hd'.1 (e ▸ h76)
      rw [getQ_noparts hc76]
      exact hp (List.mem_cons_of_mem _ h76)
    have hg : getAll s l (getQ s c x) = (q', a', 0) := h
    obtain ⟨h1, h2, h3⟩ := getAll_cut l hl' hd'.2 hp2 hg
    obtain ⟨q1, a1, e1, hx⟩ : ∃ q1 a1 e1, getQ s c x = (q1, a1, e1) := ⟨_, _, _, rfl⟩
    have hk := getAll_keep (s := s) hc l (getQ s c x) hl' hd'.1
    rw [hg] at hk
    rw [hx] at h1 h2 h3 hk
    dsimp only at h1 h2 h3 hk
    subst h1
    obtain ⟨h4, h5, h6⟩ := getQ_cut hc (fun e => hp (e ▸ List.mem_cons_self ..)) hx
    refine ⟨h4, by omega, ?_⟩
    rw [List.flatMap_cons, hk, ← h6, ← h3, cut_app h5 h2]
theorem lets_nodup (k : Int) : (lets k).Nodup := lets_all (Q := fun l => l.Nodup) (by decide) k
/-- What was read has just these bytes. -/
theorem lastQ_cut {s : List UInt8} {q : Rq} {a : Nat} (h : lastQ s = (q, a, 0)) : a ≤ s.length ∧ s.take a = putQ q := by
  have hk := getAll_kind s (lets (rdNum s 0 0 1).2.2) (kindQ s)
  obtain ⟨h1, h2, h3⟩ := getAll_cut _ (lets_in _) (lets_nodup _) (fun _ => rfl) h
  have hx : rdNum s 0 0 1 = ((rdNum s 0 0 1).1, 0, (rdNum s 0 0 1).2.2) := by
    have h1' : (rdNum s 0 0 1).2.1 = 0 := h1
    exact Prod.ext rfl (Prod.ext h1' rfl)
  obtain ⟨-, h4, h5, h6⟩ := num_cut (by omega) hx
  have h7 : a ≤ s.length := by
    rcases lastR_as s with ⟨-, -, h8⟩ | ⟨h8, -⟩
    · rw [h] at h8; exact h8
    · rw [h] at h8; exact absurd rfl h8
  refine ⟨h7, ?_⟩
  have hkq : q.kind = (rdNum s 0 0 1).2.2 := by
    have : (lastQ s).1.kind = (rdNum s 0 0 1).2.2 := hk
    rwa [h] at this
  unfold putQ
  rw [hkq, ← h6, ← h3]
  have h2' : (rdNum s 0 0 1).1 ≤ a := h2
  show _ = cut s 0 (rdNum s 0 0 1).1 ++ cut s (rdNum s 0 0 1).1 a
  rw [cut_app (Nat.zero_le _) h2']
  unfold cut
  rw [List.drop_zero, Nat.sub_zero]
end Go.Proofs.YtogekobpjjmnjaaGreat

namespace Go.Proofs.YtogekobpjjmnjaaGreat
set_option maxRecDepth 100000
open Go.RowKit Go.Amb
set_option linter.unusedVariables false
theorem drop_mid (a b c : List UInt8) : ((a ++ (b ++ c)).drop a.length).take b.length = b := by simp
theorem num_back (a more : List UInt8) (n : Int) (m : Nat) (k : Nat) (hk : k = a.length) : rdNum (a ++ (fld n m ++ more)) k 0 m = (k + m, 0, wrap64 (n % 256 ^ m)) := by
  subst hk
  have h := drop_mid a (fld n m) more
  rw [fld_length] at h
  rw [rdNum_ok (by simp only [List.length_append, fld_length]; omega), h, numL_fld]
theorem num_small (a more : List UInt8) (n : Int) (m k : Nat) (hk : k = a.length) (hm : m ≤ 4) (h0 : 0 ≤ n) (h1 : n < 256 ^ m) : rdNum (a ++ (fld n m ++ more)) k 0 m = (k + m, 0, n) := by
  rw [num_back a more n m k hk, Int.emod_eq_of_lt h0 h1]
  have hp : (256 : Int) ^ m ≤ 4294967296 := by
    have : m = 0 ∨ m = 1 ∨ m = 2 ∨ m = 3 ∨ m = 4 := by omega
    rcases this with rfl | rfl | rfl | rfl | rfl <;> decide
  rw [IntWalk.wrap64_in _ ⟨by omega, by omega⟩]
theorem str_back (a more t : List UInt8) (m k : Nat) (hk : k = a.length) (hm : m ≤ 4) (ht : (t.length : Int) < 256 ^ m) : rdStr (a ++ (txtF t m ++ more)) k 0 m = (k + (txtF t m).length, 0, t) := by
  unfold rdStr txtF
  rw [List.append_assoc, num_small a (t ++ more) _ m k hk hm (by omega) ht]
  dsimp only
  rw [Int.toNat_natCast, rdRest_ok (by simp only [List.length_append, fld_length]; omega)]
  have e : a ++ (fld (t.length : Int) m ++ (t ++ more)) = (a ++ fld (t.length : Int) m) ++ (t ++ more) := by simp
  have h := drop_mid (a ++ fld (t.length : Int) m) t more
  rw [List.length_append, fld_length, ← hk] at h
  rw [e, h, List.length_append, fld_length, Nat.add_assoc]
theorem parts_back (more : List UInt8) : ∀ (ts : List Int) (a : List UInt8) (k : Nat) (ps : List Int), k = a.length → (∀ p ∈ ts, 0 ≤ p ∧ p ≤ 255) → rdParts (a ++ (ts.flatMap (fun p => fld p 1) ++ more)) ts.length k 0 ps = (k + ts.length, 0, ps ++ ts)
  | [], a, k, ps, _, _ => by simp [rdParts]
  | t :: ts, a, k, ps, hk, hp => by
    have h1 := hp t (List.mem_cons_self ..)
    have h2 := parts_back more ts (a ++ fld t 1) (k + 1) (ps ++ [t]) (by rw [List.length_append, fld_length]; omega) fun p h => hp p (List.mem_cons_of_mem _ h)
    have h3 := num_small a (ts.flatMap (fun p => fld p 1) ++ more) t 1 k hk (by omega) h1.1 (by omega)
    rw [List.length_cons, List.flatMap_cons, List.append_assoc]
    unfold rdParts
    rw [if_pos rfl, h3]
    dsimp only
    rw [List.append_assoc] at h2
    rw [h2, List.append_assoc]
    simp
    omega
/-- A field of x, taken from q. -/
def setF (q : Rq) (x : Rq) (c : UInt8) : Rq :=
  if c = 83 then { x with session := q.session } else if c = 66 then { x with bucket := q.bucket } else if c = 79 then { x with object := q.object } else if c = 86 then { x with version := q.version } else if c = 80 then { x with pre := q.pre } else
  if c = 68 then { x with delim := q.delim } else if c = 67 then (if q.ck = 2 then { x with ck := 2, re := q.re, im := q.im } else { x with ck := q.ck }) else if c = 73 then { x with id := q.id } else if c = 78 then { x with n := q.n } else
  if c = 76 then { x with parts := q.parts } else if c = 88 then { x with body := q.body } else x
theorem id_back {n : Int} (h : -9223372036854775808 ≤ n ∧ n ≤ 9223372036854775807) : wrap64 (n % 256 ^ 8) = n := by
  unfold wrap64
  have : (256 : Int) ^ 8 = 18446744073709551616 := by decide
  rw [this]
  omega
theorem getQ_put {q : Rq} (hf : fitsQ q) (hid : -9223372036854775808 ≤ q.id ∧ q.id ≤ 9223372036854775807) (a more : List UInt8) (k : Nat) (hk : k = a.length) {c : UInt8} (hc : c ∈ lets11) (x : Rq) (hp : c = 76 → x.parts = []) :
    getQ (a ++ (putF q c ++ more)) c (x, k, 0) = (setF q x c, k + (putF q c).length, 0) := by
  obtain ⟨hkk, hse, hn, hck, htag, -, hpl, hbl, ⟨l1, l2, l3, l4, l5⟩, hpp⟩ := hf
  simp only [lets11, List.mem_cons, List.not_mem_nil, or_false] at hc
  rcases hc with rfl | rfl | rfl | rfl | rfl | rfl | rfl | rfl | rfl | rfl | rfl
  · show (({ x with session := (rdNum (a ++ (fld q.session 1 ++ more)) k 0 1).2.2 } : Rq), (rdNum (a ++ (fld q.session 1 ++ more)) k 0 1).1, (rdNum (a ++ (fld q.session 1 ++ more)) k 0 1).2.1) = ({ x with session := q.session }, k + (fld q.session 1).length, 0)
    rw [num_small a more _ 1 k hk (by omega) (by omega) (by omega), fld_length]
  · show (({ x with bucket := (rdStr (a ++ (txtF q.bucket 1 ++ more)) k 0 1).2.2 } : Rq), (rdStr (a ++ (txtF q.bucket 1 ++ more)) k 0 1).1, (rdStr (a ++ (txtF q.bucket 1 ++ more)) k 0 1).2.1) = ({ x with bucket := q.bucket }, k + (txtF q.bucket 1).length, 0)
    rw [str_back a more _ 1 k hk (by omega) (by omega)]
  · show (({ x with object := (rdStr (a ++ (txtF q.object 1 ++ more)) k 0 1).2.2 } : Rq), (rdStr (a ++ (txtF q.object 1 ++ more)) k 0 1).1, (rdStr (a ++ (txtF q.object 1 ++ more)) k 0 1).2.1) = ({ x with object := q.object }, k + (txtF q.object 1).length, 0)
    rw [str_back a more _ 1 k hk (by omega) (by omega)]
  · show (({ x with version := (rdStr (a ++ (txtF q.version 1 ++ more)) k 0 1).2.2 } : Rq), (rdStr (a ++ (txtF q.version 1 ++ more)) k 0 1).1, (rdStr (a ++ (txtF q.version 1 ++ more)) k 0 1).2.1) = ({ x with version := q.version }, k + (txtF q.version 1).length, 0)
    rw [str_back a more _ 1 k hk (by omega) (by omega)]
  · show (({ x with pre := (rdStr (a ++ (txtF q.pre 1 ++ more)) k 0 1).2.2 } : Rq), (rdStr (a ++ (txtF q.pre 1 ++ more)) k 0 1).1, (rdStr (a ++ (txtF q.pre 1 ++ more)) k 0 1).2.1) = ({ x with pre := q.pre }, k + (txtF q.pre 1).length, 0)
    rw [str_back a more _ 1 k hk (by omega) (by omega)]
  · show (({ x with delim := (rdStr (a ++ (txtF q.delim 1 ++ more)) k 0 1).2.2 } : Rq), (rdStr (a ++ (txtF q.delim 1 ++ more)) k 0 1).1, (rdStr (a ++ (txtF q.delim 1 ++ more)) k 0 1).2.1) = ({ x with delim := q.delim }, k + (txtF q.delim 1).length, 0)
    rw [str_back a more _ 1 k hk (by omega) (by omega)]
  · obtain ⟨t1, t2, t3, t4⟩ := htag
    by_cases h2 : q.ck = 2
    · have e : putF q 67 = fld q.ck 1 ++ (fld q.re 4 ++ fld q.im 4) := by show fld q.ck 1 ++ (if q.ck = 2 then _ else _) = _; rw [if_pos h2]
      have n1 := num_small a ((fld q.re 4 ++ fld q.im 4) ++ more) q.ck 1 k hk (by omega) (by omega) (by omega)
      have n2 := num_small (a ++ fld q.ck 1) (fld q.im 4 ++ more) q.re 4 (k + 1) (by rw [List.length_append, fld_length]; omega) (by omega) (by omega) (by omega)
      have n3 := num_small (a ++ fld q.ck 1 ++ fld q.re 4) more q.im 4 (k + 1 + 4) (by rw [List.length_append, List.length_append, fld_length, fld_length]; omega) (by omega) (by omega) (by omega)
      simp only [List.append_assoc] at n1 n2 n3
      rw [e]
      simp only [List.append_assoc]
      generalize a ++ (fld q.ck 1 ++ (fld q.re 4 ++ (fld q.im 4 ++ more))) = S at *
      change (if (rdNum S k 0 1).2.2 = 2 then (({ x with ck := 2, re := (rdTag S (rdNum S k 0 1).1 (rdNum S k 0 1).2.1).2.2.1, im := (rdTag S (rdNum S k 0 1).1 (rdNum S k 0 1).2.1).2.2.2 } : Rq), (rdTag S (rdNum S k 0 1).1 (rdNum S k 0 1).2.1).1, (rdTag S (rdNum S k 0 1).1 (rdNum S k 0 1).2.1).2.1) else ({ x with ck := (rdNum S k 0 1).2.2 }, (rdNum S k 0 1).1, (rdNum S k 0 1).2.1)) = ((if q.ck = 2 then ({ x with ck := 2, re := q.re, im := q.im } : Rq) else { x with ck := q.ck }), _, (0 : Int))
      unfold rdTag
      rw [n1]
      dsimp only
      rw [if_pos h2, if_pos h2, n2]
      dsimp only
      rw [n3]
      simp only [List.length_append, fld_length]
    · have e : putF q 67 = fld q.ck 1 := by show fld q.ck 1 ++ (if q.ck = 2 then _ else _) = _; rw [if_neg h2, List.append_nil]
      have n1 := num_small a more q.ck 1 k hk (by omega) (by omega) (by omega)
      rw [e]
      generalize a ++ (fld q.ck 1 ++ more) = S at *
      change (if (rdNum S k 0 1).2.2 = 2 then (({ x with ck := 2, re := (rdTag S (rdNum S k 0 1).1 (rdNum S k 0 1).2.1).2.2.1, im := (rdTag S (rdNum S k 0 1).1 (rdNum S k 0 1).2.1).2.2.2 } : Rq), (rdTag S (rdNum S k 0 1).1 (rdNum S k 0 1).2.1).1, (rdTag S (rdNum S k 0 1).1 (rdNum S k 0 1).2.1).2.1) else ({ x with ck := (rdNum S k 0 1).2.2 }, (rdNum S k 0 1).1, (rdNum S k 0 1).2.1)) = ((if q.ck = 2 then ({ x with ck := 2, re := q.re, im := q.im } : Rq) else { x with ck := q.ck }), _, (0 : Int))
      rw [n1]
      dsimp only
      rw [if_neg h2, if_neg h2, fld_length]
  · show (({ x with id := (rdNum (a ++ (fld q.id 8 ++ more)) k 0 8).2.2 } : Rq), (rdNum (a ++ (fld q.id 8 ++ more)) k 0 8).1, (rdNum (a ++ (fld q.id 8 ++ more)) k 0 8).2.1) = ({ x with id := q.id }, k + (fld q.id 8).length, 0)
    rw [num_back a more _ 8 k hk, fld_length, id_back hid]
  · show (({ x with n := (rdNum (a ++ (fld q.n 2 ++ more)) k 0 2).2.2 } : Rq), (rdNum (a ++ (fld q.n 2 ++ more)) k 0 2).1, (rdNum (a ++ (fld q.n 2 ++ more)) k 0 2).2.1) = ({ x with n := q.n }, k + (fld q.n 2).length, 0)
    rw [num_small a more _ 2 k hk (by omega) (by omega) (by omega), fld_length]
  · have n1 := num_small a (q.parts.flatMap (fun p => fld p 1) ++ more) (q.parts.length : Int) 1 k hk (by omega) (by omega) (by omega)
    have n2 := parts_back more q.parts (a ++ fld (q.parts.length : Int) 1) (k + 1) [] (by rw [List.length_append, fld_length]; omega) hpp
    have e : putF q 76 = fld (q.parts.length : Int) 1 ++ q.parts.flatMap (fun p => fld p 1) := rfl
    simp only [List.append_assoc] at n1 n2
    rw [e]
    simp only [List.append_assoc]
    generalize a ++ (fld (q.parts.length : Int) 1 ++ (q.parts.flatMap (fun p => fld p 1) ++ more)) = S at *
    change (({ x with parts := (rdParts S (rdNum S k 0 1).2.2.toNat (rdNum S k 0 1).1 (rdNum S k 0 1).2.1 x.parts).2.2 } : Rq), (rdParts S (rdNum S k 0 1).2.2.toNat (rdNum S k 0 1).1 (rdNum S k 0 1).2.1 x.parts).1, (rdParts S (rdNum S k 0 1).2.2.toNat (rdNum S k 0 1).1 (rdNum S k 0 1).2.1 x.parts).2.1) = (({ x with parts := q.parts } : Rq), _, (0 : Int))
    rw [n1, hp rfl]
    dsimp only
    rw [Int.toNat_natCast, n2, List.length_append, fld_length, parts_len, List.nil_append, Nat.add_assoc]
  · show (({ x with body := (rdStr (a ++ (txtF q.body 2 ++ more)) k 0 2).2.2 } : Rq), (rdStr (a ++ (txtF q.body 2 ++ more)) k 0 2).1, (rdStr (a ++ (txtF q.body 2 ++ more)) k 0 2).2.1) = ({ x with body := q.body }, k + (txtF q.body 2).length, 0)
    rw [str_back a more _ 2 k hk (by omega) (by omega)]
theorem setF_parts (q x : Rq) {c : UInt8} (h : c ≠ 76) : (setF q x c).parts = x.parts := by
  unfold setF
  rw [if_neg h]
  simp only [apply_ite Rq.parts, ite_self]
theorem getAll_put {q : Rq} (hf : fitsQ q) (hid : -9223372036854775808 ≤ q.id ∧ q.id ≤ 9223372036854775807) (more : List UInt8) : ∀ (l : List UInt8) (a : List UInt8) (k : Nat) (x : Rq), k = a.length → (∀ d ∈ l, d ∈ lets11) → l.Nodup → (76 ∈ l → x.parts = []) →
    getAll (a ++ (l.flatMap (putF q) ++ more)) l (x, k, 0) = (l.foldl (setF q) x, k + (l.flatMap (putF q)).length, 0)
  | [], a, k, x, _, _, _, _ => rfl
  | c :: l, a, k, x, hk, hl, hd, hp => by
    have hd' := List.nodup_cons.1 hd
    have h1 := getQ_put hf hid a (l.flatMap (putF q) ++ more) k hk (hl c (List.mem_cons_self ..)) x (fun e => hp (e ▸ List.mem_cons_self ..))
    have h2 := getAll_put hf hid more l (a ++ putF q c) (k + (putF q c).length) (setF q x c) (by rw [List.length_append]; omega) (fun d h => hl d (List.mem_cons_of_mem _ h)) hd'.2 (fun h76 => by
      rw [setF_parts q x (fun (e : c = 76) => hd'.1 (by rw [e]; exact h76))]
      exact hp (List.mem_cons_of_mem _ h76))
    rw [List.flatMap_cons, List.append_assoc]
    rw [List.append_assoc] at h2
    show getAll _ l (getQ _ c (x, k, 0)) = _
    rw [h1, h2, List.foldl_cons, List.length_append, Nat.add_assoc]
theorem set_one (q x : Rq) (l : List UInt8) (c : UInt8) : (c :: l).foldl (setF q) x = l.foldl (setF q) (setF q x c) := rfl
theorem mix_all (k : Int) : ∀ q : Rq, onlyQ q (lets k) → (q.ck = 2 ∨ (q.re = 0 ∧ q.im = 0)) → (lets k).foldl (setF q) { zeroQ with kind := q.kind } = q := by
  refine lets_all (Q := fun l => ∀ q : Rq, onlyQ q l → (q.ck = 2 ∨ (q.re = 0 ∧ q.im = 0)) → l.foldl (setF q) { zeroQ with kind := q.kind } = q) ?_ k
  intro l hl q ho hr
  obtain ⟨kind, session, bucket, object, version, pre, delim, body, ck, re, im, id, n, parts⟩ := q
  simp only [List.mem_cons, List.not_mem_nil, or_false] at hl
  rcases hl with rfl | rfl | rfl | rfl | rfl | rfl | rfl | rfl | rfl | rfl | rfl | rfl | rfl
  all_goals
    unfold onlyQ at ho
    simp at ho
    simp [setF, zeroQ, ho]
    try (by_cases h2 : ck = 2 <;> simp_all)
/-- What was put is read so, whatever stands behind. -/
theorem lastQ_put {q : Rq} (hR : rightQ q) (hid : -9223372036854775808 ≤ q.id ∧ q.id ≤ 9223372036854775807) (more : List UInt8) : lastQ (putQ q ++ more) = (q, (putQ q).length, 0) := by
  have hf := hR.1
  have hk := hf.1
  have e : putQ q ++ more = [] ++ (fld q.kind 1 ++ ((lets q.kind).flatMap (putF q) ++ more)) := by unfold putQ; rw [List.nil_append, List.append_assoc]
  have h1 := num_small [] ((lets q.kind).flatMap (putF q) ++ more) q.kind 1 0 rfl (by omega) (by omega) (by omega)
  have h2 := getAll_put hf hid more (lets q.kind) (fld q.kind 1) 1 { zeroQ with kind := q.kind } (by rw [fld_length]) (lets_in _) (lets_nodup _) (fun _ => rfl)
  have h3 := mix_all q.kind q hR.2 hf.2.2.2.2.2.1
  rw [h3] at h2
  unfold lastQ kindQ
  rw [e, h1]
  dsimp only
  rw [List.nil_append, Nat.zero_add, h2]
  unfold putQ
  rw [List.length_append, fld_length]
end Go.Proofs.YtogekobpjjmnjaaGreat

namespace Go.Proofs.YtogekobpjjmnjaaGreat
set_option maxRecDepth 100000
open Go.RowKit Go.Amb
set_option linter.unusedVariables false
def idOk (q : Rq) : Prop := -9223372036854775808 ≤ q.id ∧ q.id ≤ 9223372036854775807
theorem readQ_some {s : List UInt8} {q : Rq} (h : readQ s = some q) : putQ q = s ∧ rightQ q ∧ ∃ a, lastQ s = (q, a, 0) ∧ a = s.length := by
  unfold readQ at h
  obtain ⟨q1, a, e, hx⟩ : ∃ q1 a e, lastQ s = (q1, a, e) := ⟨_, _, _, rfl⟩
  rw [hx] at h
  dsimp only at h
  by_cases hc : rdEnd s a e = 0 ∧ rightQ q1
  · rw [if_pos hc] at h
    injection h with h
    subst h
    obtain ⟨h1, h2⟩ := hc
    unfold rdEnd at h1
    by_cases he : e = 0
    · subst he
      rw [if_pos rfl] at h1
      by_cases hl : a < s.length
      · rw [if_pos hl] at h1; cases h1
      · obtain ⟨h3, h4⟩ := lastQ_cut hx
        obtain rfl : a = s.length := by omega
        rw [List.take_length] at h4
        exact ⟨h4.symm, h2, _, hx, rfl⟩
    · rw [if_neg he] at h1
      exact absurd h1 he
  · rw [if_neg hc] at h
    cases h
theorem readQ_put {q : Rq} (hR : rightQ q) (hid : idOk q) : readQ (putQ q) = some q := by
  have h := lastQ_put hR hid []
  rw [List.append_nil] at h
  unfold readQ
  rw [h]
  exact if_pos ⟨by unfold rdEnd; rw [if_pos rfl, if_neg (Nat.lt_irrefl _)], hR⟩
theorem readQ_more {q : Rq} (hR : rightQ q) (hid : idOk q) (b : UInt8) : readQ (putQ q ++ [b]) = none := by
  have h := lastQ_put hR hid [b]
  unfold readQ
  rw [h]
  refine if_neg fun hc => ?_
  have := hc.1
  unfold rdEnd at this
  rw [if_pos rfl, if_pos (by simp)] at this
  cases this
theorem id0 : -9223372036854775808 ≤ (0 : Int) ∧ (0 : Int) ≤ 9223372036854775807 := by decide
/-- An id that was read is an int. -/
theorem getQ_id (s : List UInt8) (c : UInt8) (x : Rq × Nat × Int) (h : idOk x.1) : idOk (getQ s c x).1 := by
  have hn : -9223372036854775808 ≤ (rdNum s x.2.1 x.2.2 8).2.2 ∧ (rdNum s x.2.1 x.2.2 8).2.2 ≤ 9223372036854775807 := by
    unfold rdNum
    split
    · split
      · show _ ≤ wrap64 _ ∧ wrap64 _ ≤ _
        unfold wrap64
        omega
      · exact id0
    · exact id0
  unfold getQ
  repeat' (first | exact h | exact hn | refine hit3 (Q := fun y => idOk y.1) _ ?_ ?_)
theorem getAll_id (s : List UInt8) : ∀ (l : List UInt8) (x : Rq × Nat × Int), idOk x.1 → idOk (getAll s l x).1
  | [], x, h => h
  | c :: l, x, h => getAll_id s l (getQ s c x) (getQ_id s c x h)
theorem lastQ_id (s : List UInt8) : idOk (lastQ s).1 := getAll_id s _ _ id0
theorem readQ_id {s : List UInt8} {q : Rq} (h : readQ s = some q) : idOk q := by
  obtain ⟨-, -, a, h1, -⟩ := readQ_some h
  have := lastQ_id s
  rw [h1] at this
  exact this
theorem readQ_less {q : Rq} (hR : rightQ q) (hid : idOk q) : readQ ((putQ q).take ((putQ q).length - 1)) = none := by
  have hpos : 0 < (putQ q).length := by unfold putQ; rw [List.length_append, fld_length]; omega
  cases h : readQ ((putQ q).take ((putQ q).length - 1)) with
  | none => rfl
  | some y =>
    obtain ⟨h1, h2, -⟩ := readQ_some h
    have h3 := lastQ_put h2 (readQ_id h) ((putQ q).drop ((putQ q).length - 1))
    rw [h1, List.take_append_drop] at h3
    have h4 := lastQ_put hR hid []
    rw [List.append_nil, h3] at h4
    injection h4 with _ h5
    injection h5 with h6 _
    rw [List.length_take] at h6
    omega
end Go.Proofs.YtogekobpjjmnjaaGreat
