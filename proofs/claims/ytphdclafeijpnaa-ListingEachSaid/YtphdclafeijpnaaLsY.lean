/- Each name stands in a list of entries once, or begins with one common prefix there. No program stands here. -/
import Derived.Test.YtphdclafeijpnaaLsS
namespace Go.Amb
set_option linter.unusedVariables false
theorem count_one : ∀ {l : List Str} {a : Str}, l.Nodup → a ∈ l → l.count a = 1
  | x :: l, a, hn, hm => by
    obtain ⟨h1, h2⟩ := List.nodup_cons.1 hn
    rw [List.count_cons]
    by_cases e : x = a
    · subst e; rw [List.count_eq_zero.2 h1]; simp
    · rw [count_one h2 ((List.mem_cons.1 hm).resolve_left fun h => e h.symm)]; simp [e]
theorem asc_nodup {l : List Str} (h : Asc l) : l.Nodup := h.imp fun hab e => less_ne hab e
theorem names_all {p d : Str} (hd : d.length ≤ 1) {l : List Str} (ha : Asc l) : namesOf (ents p d [] l) = l.filter fun s => begins s p && !s.isEmpty && !(entOf s p d).2 :=
  names_ents hd l ([], false) ha (fun s _ hs e => hs (Prod.mk.inj e).1.symm)
theorem prefs_nodup {p d : Str} (hd : d.length ≤ 1) {l : List Str} (ha : Asc l) : (prefsOf (ents p d [] l)).Nodup := by
  have h := ents_sorted (p := p) hd ha
  unfold prefsOf
  have h2 : ((ents p d [] l).filter (·.2)).Pairwise (fun x y => Op.bytesLess x.1 y.1 = true) := h.sublist List.filter_sublist
  exact (List.pairwise_map.2 (h2.imp fun hab e => less_ne hab e))
theorem mem_prefs {p d q : Str} {l : List Str} : q ∈ prefsOf (ents p d [] l) ↔ ∃ s ∈ l, begins s p = true ∧ entOf s p d = (q, true) ∧ q ≠ [] := by
  unfold prefsOf
  simp only [List.mem_map, List.mem_filter]
  constructor
  · rintro ⟨x, ⟨hx, h2⟩, rfl⟩
    obtain ⟨s, hs, hb, he, hne⟩ := ents_iff.1 hx
    exact ⟨s, hs, hb, by rw [he, ← h2], hne⟩
  · rintro ⟨s, hs, hb, he, hne⟩
    exact ⟨(q, true), ⟨ents_iff.2 ⟨s, hs, hb, he, hne⟩, rfl⟩, rfl⟩
theorem begins_tr (c : UInt8) (n : Nat) (s : Str) : begins s (tr c n s) = true := by
  unfold begins
  have h := tr_take c n s
  refine decide_eq_true ⟨?_, h⟩
  have := congrArg List.length h
  rw [List.length_take] at this; omega
theorem each_name {p d : Str} (hd : d.length ≤ 1) {l : List Str} (ha : Asc l) {s : Str} (hs : s ∈ l) (hb : begins s p = true) (hn : s ≠ []) :
    ((entOf s p d).2 = false ∧ (namesOf (ents p d [] l)).count s = 1 ∧ (prefsOf (ents p d [] l)).countP (begins s) = 0) ∨
    ((entOf s p d).2 = true ∧ (namesOf (ents p d [] l)).count s = 0 ∧ (prefsOf (ents p d [] l)).countP (begins s) = 1) := by
  have hN := names_all (p := p) hd ha
  have hnd : (l.filter fun s => begins s p && !s.isEmpty && !(entOf s p d).2).Nodup := (asc_nodup ha).filter _
  cases hc : (entOf s p d).2 with
  | false =>
    refine .inl ⟨rfl, ?_, ?_⟩
    · rw [hN]
      exact count_one hnd (List.mem_filter.2 ⟨hs, by rw [hb, hc]; cases s <;> simp_all⟩)
    · rw [List.countP_eq_zero]
      intro q hq hbq
      obtain ⟨t, -, -, he, -⟩ := mem_prefs.1 hq
      match d, hd with
      | [], _ => simp [entOf] at he
      | [c], _ =>
        rw [entOf_tr] at he hc
        obtain ⟨rfl, h2⟩ := Prod.mk.inj he
        have := (tr_of_begins c p.length t s h2 (of_decide_eq_true hbq).2).2
        simp only at hc
        rw [this] at hc; cases hc
  | true =>
    refine .inr ⟨rfl, ?_, ?_⟩
    · rw [hN, List.count_eq_zero]
      intro hm
      have := (List.mem_filter.1 hm).2
      rw [hc] at this; simp at this
    · match d, hd with
      | [], _ => cases hc
      | [c], _ =>
        rw [entOf_tr] at hc
        have hc' : com c p.length s = true := hc
        have hmem : tr c p.length s ∈ prefsOf (ents p [c] [] l) := mem_prefs.2 ⟨s, hs, hb, by rw [entOf_tr, hc'], fun e => by have := (tr_last c p.length s hc').2; rw [e] at this; simp at this⟩
        have h1 : (prefsOf (ents p [c] [] l)).countP (begins s) = (prefsOf (ents p [c] [] l)).count (tr c p.length s) := by
          unfold List.count
          refine List.countP_congr fun q hq => ?_
          rw [beq_iff_eq]
          constructor
          · intro hbq
            obtain ⟨t, -, -, he, -⟩ := mem_prefs.1 hq
            rw [entOf_tr] at he
            obtain ⟨rfl, h2⟩ := Prod.mk.inj he
            exact (tr_of_begins c p.length t s h2 (of_decide_eq_true hbq).2).1.symm
          · rintro rfl
            exact begins_tr c _ s
        rw [h1]
        exact count_one (prefs_nodup (d := [c]) (by simp) ha) hmem
theorem each_prefix {p d : Str} (hd : d.length ≤ 1) {l : List Str} {q : Str} (hq : q ∈ prefsOf (ents p d [] l)) :
    (∃ s ∈ l, begins s p = true ∧ s ≠ [] ∧ begins s q = true) ∧ p.length < q.length ∧ begins q p = true ∧ q.drop (q.length - 1) = d := by
  obtain ⟨s, hs, hb, he, hne⟩ := mem_prefs.1 hq
  match d, hd with
  | [], _ => simp [entOf] at he
  | [c], _ =>
    rw [entOf_tr] at he
    obtain ⟨rfl, h2⟩ := Prod.mk.inj he
    obtain ⟨h3, h4⟩ := tr_last c p.length s h2
    have ht := tr_take c p.length s
    refine ⟨⟨s, hs, hb, fun e => ?_, begins_tr c _ s⟩, h4, ?_, ?_⟩
    · subst e; cases hp : p.length <;> rw [hp] at h2 <;> cases h2
    · refine decide_eq_true ⟨by omega, ?_⟩
      rw [← ht, List.take_take, Nat.min_eq_left (by omega)]
      exact (of_decide_eq_true hb).2
    · obtain ⟨x, y, hxy⟩ : ∃ x y, tr c p.length s = x ++ [y] := by
        rcases List.eq_nil_or_concat (tr c p.length s) with h | ⟨x, y, h⟩
        · rw [h] at h4; simp at h4
        · exact ⟨x, y, by rw [h, List.concat_eq_append]⟩
      rw [hxy] at h3 ⊢
      simp at h3
      subst h3
      simp
theorem prefs_none {p : Str} {l : List Str} : prefsOf (ents p [] [] l) = [] := by
  refine List.eq_nil_iff_forall_not_mem.2 fun q hq => ?_
  obtain ⟨s, -, -, he, -⟩ := mem_prefs.1 hq
  simp [entOf] at he
end Go.Amb
