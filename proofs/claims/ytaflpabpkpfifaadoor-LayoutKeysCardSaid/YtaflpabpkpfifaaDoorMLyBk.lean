/- Keys and heads in plain Lean: what their bytes are read as. -/
import Derived.Test.YtaflpabpkpfifaaDoorMLyI0
import Derived.Test.YtaflpabpkpfifaaDoorMLyRH
import Derived.Test.YtaflpabpkpfifaaDoorMLsP
namespace Go.Proofs.YtaflpabpkpfifaaDoor
set_option maxRecDepth 100000
open Go.RowKit Go.Amb
set_option linter.unusedVariables false

theorem kind_of_letter {k : Int} (h : 1 ≤ k ∧ k ≤ 6) : kindOf [letterK k] = k := by
  obtain rfl | rfl | rfl | rfl | rfl | rfl : k = 1 ∨ k = 2 ∨ k = 3 ∨ k = 4 ∨ k = 5 ∨ k = 6 := by omega
  all_goals decide
theorem nums_back (k : Int) (ns : List Int) : (ns.map (numPt k)).map (·.n) = ns := by
  induction ns with
  | nil => rfl
  | cons n ns ih => rw [List.map_cons, List.map_cons, ih]; rfl
theorem kyOf_parts {x : Ky} (h : (keyR x).2 = 0) : kyOf (partsK x) = x := by
  obtain ⟨h1, h2, h3, _⟩ := keyR_fine h
  obtain ⟨n1, n2, n3⟩ := key_names h
  have hk := numbersB_kind h1
  obtain ⟨k, b, o, ns⟩ := x
  unfold partsK
  simp only at n1 n2 n3 hk ⊢
  rw [optP_some n1, List.singleton_append, kyOf_cons]
  show kyFrom (kindOf [letterK k]) b (optP o ++ ns.map (numPt k)) = _
  rw [kind_of_letter ⟨hk.1, hk.2.1⟩]
  unfold kyFrom
  by_cases e : k = 1
  · obtain ⟨e1, e2⟩ := n2 e
    rw [if_pos e, e1, e2, e]
    rfl
  · rw [if_neg e, optP_some (n3 e), List.singleton_append]
    show (⟨k, b, o, (ns.map (numPt k)).map (·.n)⟩ : Ky) = _
    rw [nums_back]
theorem parseR_of {s : Str} {l : List Part} (hd : decR s = (l, 0)) (h2 : 2 ≤ l.length) (hk : keyR (kyOf l) = (s, 0)) : parseR s = (kyOf l, 0) := by
  unfold parseR
  rw [hd]
  rw [if_pos ⟨rfl, h2, hk⟩]
/-- A key's bytes are parsed as the key; they are at most 120. -/
theorem key_back {x : Ky} (h : (keyR x).2 = 0) (hn : ∀ n ∈ x.ns, i64Ok n) : parseR (keyR x).1 = (x, 0) ∧ (keyR x).1.length ≤ 120 := by
  obtain ⟨_, _, _, hl, e⟩ := keyR_fine h
  have hd : decR (encB (partsK x)) = (partsK x, 0) := by
    unfold decR
    rw [if_neg (by omega), decL_enc _ (fun p hp => ⟨right_partsK x p hp, ok_partsK x hn p hp⟩)]
  have hk := kyOf_parts h
  refine ⟨?_, by rw [e]; exact hl⟩
  rw [show (keyR x).1 = encB (partsK x) by rw [e], parseR_of hd ?_ (by rw [hk]; exact e), hk]
  unfold partsK
  rw [optP_some (key_names h).1]
  simp
theorem parse_back {s : Str} (h : (parseR s).2 = 0) : keyR (parseR s).1 = (s, 0) := by
  unfold parseR at h ⊢
  split at h
  · rename_i g
    rw [if_pos g]
    exact g.2.2
  · cases h
theorem parse_ok (s : Str) : (∀ n ∈ (parseR s).1.ns, i64Ok n) ∧ (parseR s).1.b.length ≤ 128 ∧ (parseR s).1.o.length ≤ 128 := by
  have hd := dec_ok s
  unfold parseR
  split
  · rename_i g
    obtain ⟨_, g2, _⟩ := g
    match hl : (decR s).1, g2 with
    | p :: q :: r, _ =>
      rw [hl] at hd
      have hr : ∀ u ∈ r, i64Ok u.n ∧ u.s.length ≤ 128 := fun u hu => hd u (List.mem_cons_of_mem _ (List.mem_cons_of_mem _ hu))
      have hq := (hd q (by simp)).2
      have hm : ∀ l : List Part, (∀ u ∈ l, i64Ok u.n ∧ u.s.length ≤ 128) → ∀ n ∈ l.map (·.n), i64Ok n := fun l h n hn => by
        obtain ⟨u, hu, rfl⟩ := List.mem_map.1 hn
        exact (h u hu).1
      rw [kyOf_cons]
      unfold kyFrom
      by_cases hk : kindOf p.s = 1
      · rw [if_pos hk]
        exact ⟨hm r hr, hq, Nat.zero_le _⟩
      · rw [if_neg hk]
        rcases r with _ | ⟨u, r⟩
        · exact ⟨(fun n hn => by cases hn), hq, Nat.zero_le _⟩
        · exact ⟨hm r (fun v hv => hr v (List.mem_cons_of_mem _ hv)), hq, (hr u (by simp)).2⟩
  · exact ⟨(fun n hn => by cases hn), Nat.zero_le _, Nat.zero_le _⟩
theorem hdB_length (h : Hd) : (hdB h).length = 11 := by unfold hdB; simp [fld_length]
theorem hdFl_are (h : Hd) : 0 ≤ hdFl h ∧ hdFl h < 4 ∧ decide (hdFl h % 2 = 1) = h.gone ∧ decide (hdFl h / 2 % 2 = 1) = h.null := by
  obtain ⟨s, r, i, g, n⟩ := h
  cases g <;> cases n <;> simp [hdFl]
theorem hdOf_back {h : Hd} (e : HdOk h) : hdOf (hdB h) = h := by
  obtain ⟨f0, f1, f2, f3⟩ := hdFl_are h
  obtain ⟨h1, h2, ⟨⟨t1, t2⟩, t3, t4⟩, _⟩ := e
  have e1 : (hdB h).take 1 = fld (hdFl h) 1 := by
    unfold hdB
    rw [List.append_assoc, List.append_assoc]
    exact List.take_left' (fld_length _ _)
  have e2 : ((hdB h).drop 1).take 2 = fld h.size 2 := by
    unfold hdB
    rw [List.append_assoc, List.append_assoc, List.drop_left' (fld_length _ _)]
    exact List.take_left' (fld_length _ _)
  have e3 : ((hdB h).drop 3).take 4 = fld h.re 4 := by
    unfold hdB
    rw [List.append_assoc, List.drop_left' (by simp [fld_length])]
    exact List.take_left' (fld_length _ _)
  have e4 : ((hdB h).drop 7).take 4 = fld h.im 4 := by
    unfold hdB
    rw [List.drop_left' (by simp [fld_length])]
    exact List.take_of_length_le (by simp [fld_length])
  unfold hdOf
  rw [e1, e2, e3, e4, numL_fld, numL_fld, numL_fld, numL_fld]
  have g0 : hdFl h % 256 ^ 1 = hdFl h := by omega
  have g1 : h.size % 256 ^ 2 = h.size := by omega
  have g2 : h.re % 256 ^ 4 = h.re := by omega
  have g3 : h.im % 256 ^ 4 = h.im := by omega
  rw [g0, g1, g2, g3, f2, f3]
theorem head_back {h : Hd} (e : (headR h).2 = 0) : rhR (headR h).1 = (h, 0) ∧ (headR h).1.length = 11 := by
  have hok : HdOk h := by
    by_cases g : HdOk h
    · exact g
    · rw [headR_no g] at e; cases e
  have e2 := headR_yes hok
  have hb := hdOf_back hok
  rw [show (headR h).1 = hdB h by rw [e2]]
  refine ⟨?_, hdB_length h⟩
  rw [rhR_yes ⟨hdB_length h, by rw [hb, e2]⟩, hb]
theorem rh_back {s : Str} (h : (rhR s).2 = 0) : headR (rhR s).1 = (s, 0) := by
  by_cases g : s.length = 11 ∧ headR (hdOf s) = (s, 0)
  · rw [rhR_yes g]; exact g.2
  · rw [rhR_no g] at h; cases h
theorem hdOf_i64B (s : Str) : hdI64 (hdOf s) := by
  have h2 := numL_lt_of (l := (s.drop 1).take 2) (m := 2) (by simp; omega)
  have h3 := numL_lt_of (l := (s.drop 3).take 4) (m := 4) (by simp; omega)
  have h4 := numL_lt_of (l := (s.drop 7).take 4) (m := 4) (by simp; omega)
  have g2 := numL_nonneg ((s.drop 1).take 2)
  have g3 := numL_nonneg ((s.drop 3).take 4)
  have g4 := numL_nonneg ((s.drop 7).take 4)
  refine ⟨⟨?_, ?_⟩, ⟨?_, ?_⟩, ⟨?_, ?_⟩⟩ <;> unfold hdOf <;> simp only <;> omega
theorem rh_i64 (s : Str) : hdI64 (rhR s).1 := by
  by_cases g : s.length = 11 ∧ headR (hdOf s) = (s, 0)
  · rw [rhR_yes g]; exact hdOf_i64B s
  · rw [rhR_no g]; exact ⟨⟨by decide, by decide⟩, ⟨by decide, by decide⟩, ⟨by decide, by decide⟩⟩
end Go.Proofs.YtaflpabpkpfifaaDoor
