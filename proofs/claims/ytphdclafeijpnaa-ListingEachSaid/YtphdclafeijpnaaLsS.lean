/- Lists of entries: what they hold. No program stands here. -/
import Derived.Test.YtphdclafeijpnaaLsQ
namespace Go.Amb
set_option linter.unusedVariables false
theorem bl_trans : ∀ x y z : Str, Op.bytesLess x y = true → Op.bytesLess y z = true → Op.bytesLess x z = true
  | _, [], _, h, _ => by rw [bl_nilR] at h; cases h
  | _, _ :: _, [], _, h => by rw [bl_nilR] at h; cases h
  | [], _ :: _, _ :: _, _, _ => rfl
  | a :: x, b :: y, c :: z, h, k => by
    rw [bl_consL, Bool.or_eq_true, decide_eq_true_eq, Bool.and_eq_true, beq_iff_eq] at *
    rcases h with h | ⟨rfl, h⟩
    · rcases k with k | ⟨rfl, k⟩
      · exact .inl (UInt8.lt_trans h k)
      · exact .inl h
    · rcases k with k | ⟨rfl, k⟩
      · exact .inl k
      · exact .inr ⟨rfl, bl_trans x y z h k⟩
def Asc (l : List Str) : Prop := l.Pairwise fun x y => Op.bytesLess x y = true
theorem entOf_mono {p d s t : Str} (hd : d.length ≤ 1) (h : Op.bytesLess s t = true) : Op.bytesLess (entOf t p d).1 (entOf s p d).1 = false := by
  match d, hd with
  | [], _ => exact bl_asymm s t h
  | [c], _ => rw [entOf_tr, entOf_tr]; exact tr_mono c _ s t (bl_asymm s t h)
theorem entOf_inj {p d s t : Str} (hd : d.length ≤ 1) (h : (entOf s p d).1 = (entOf t p d).1) : entOf s p d = entOf t p d := by
  match d, hd with
  | [], _ => exact Prod.ext h rfl
  | [c], _ =>
    rw [entOf_tr, entOf_tr] at *
    refine Prod.ext h ?_
    simp only at h ⊢
    rw [← com_tr c _ s, ← com_tr c _ t, h]
theorem entOf_none0 {p d s : Str} (hd : d.length ≤ 1) (h : (entOf s p d).1 = []) : entOf s p d = ([], false) := by
  match d, hd with
  | [], _ => exact Prod.ext h rfl
  | [c], _ =>
    rw [entOf_tr] at *
    refine Prod.ext h ?_
    simp only at h ⊢
    cases hc : com c p.length s with
    | false => rfl
    | true => have := (tr_last c p.length s hc).2; rw [h] at this; simp at this
theorem entOf_name {p d s : Str} (hd : d.length ≤ 1) (h : (entOf s p d).2 = false) : (entOf s p d).1 = s := by
  match d, hd with
  | [], _ => rfl
  | [c], _ => rw [entOf_tr] at *; exact tr_same c _ s h
theorem bl_nil_iff (x : Str) : Op.bytesLess [] x = false ↔ x = [] := by cases x <;> simp [Op.bytesLess]
theorem ents_mem {p d : Str} {x : Ent} : ∀ {l : List Str} {last : Ent}, x ∈ entsFrom p d [] last l → ∃ s ∈ l, begins s p = true ∧ entOf s p d = x ∧ x.1 ≠ []
  | s :: r, last, h => by
    unfold entsFrom at h
    split at h
    · obtain ⟨t, ht, h⟩ := ents_mem h
      exact ⟨t, List.mem_cons_of_mem _ ht, h⟩
    · rename_i hc
      rcases List.mem_cons.1 h with rfl | h
      · refine ⟨s, List.mem_cons_self .., ?_, rfl, fun e => hc (.inr (.inl ((bl_nil_iff _).2 e)))⟩
        cases hb : begins s p with
        | true => rfl
        | false => exact absurd (.inl hb) hc
      · obtain ⟨t, ht, h⟩ := ents_mem h
        exact ⟨t, List.mem_cons_of_mem _ ht, h⟩
theorem mem_ents {p d : Str} {x : Ent} : ∀ {l : List Str} {last : Ent} {s : Str}, s ∈ l → begins s p = true → entOf s p d = x → x.1 ≠ [] → x ∈ entsFrom p d [] last l ∨ x = last
  | t :: r, last, s, hs, hb, he, hx => by
    unfold entsFrom
    rcases List.mem_cons.1 hs with rfl | hs
    · split
      · rename_i hc
        rcases hc with h | h | h
        · rw [hb] at h; cases h
        · rw [he] at h; exact absurd ((bl_nil_iff _).1 h) hx
        · exact .inr (he ▸ h)
      · exact .inl (he ▸ List.mem_cons_self ..)
    · split
      · exact mem_ents hs hb he hx
      · rcases mem_ents (last := entOf t p d) hs hb he hx with h | h
        · exact .inl (List.mem_cons_of_mem _ h)
        · exact .inl (h ▸ List.mem_cons_self ..)
theorem ents_iff {p d : Str} {x : Ent} {l : List Str} : x ∈ ents p d [] l ↔ ∃ s ∈ l, begins s p = true ∧ entOf s p d = x ∧ x.1 ≠ [] :=
  ⟨ents_mem, fun ⟨s, hs, hb, he, hx⟩ => (mem_ents hs hb he hx).resolve_right (fun e => hx (by rw [e]))⟩
theorem bl_trich {x y : Str} (h : Op.bytesLess x y = false) (hn : x ≠ y) : Op.bytesLess y x = true := bl_total x y hn h
theorem ents_strict {p d : Str} (hd : d.length ≤ 1) : ∀ (l : List Str) (last : Ent), Asc l → (∀ s ∈ l, Op.bytesLess (entOf s p d).1 last.1 = false) → (∀ s ∈ l, (entOf s p d).1 = last.1 → entOf s p d = last) →
    (entsFrom p d [] last l).Pairwise (fun x y => Op.bytesLess x.1 y.1 = true) ∧ ∀ x ∈ entsFrom p d [] last l, Op.bytesLess last.1 x.1 = true
  | [], _, _, _, _ => ⟨.nil, fun x h => by cases h⟩
  | s :: r, last, ha, hm, hi => by
    obtain ⟨h1, h2⟩ := List.pairwise_cons.1 ha
    unfold entsFrom
    split
    · exact ents_strict hd r last h2 (fun t ht => hm t (List.mem_cons_of_mem _ ht)) (fun t ht => hi t (List.mem_cons_of_mem _ ht))
    · rename_i hc
      have hlt : Op.bytesLess last.1 (entOf s p d).1 = true := bl_trich (hm s (List.mem_cons_self ..)) (fun e => hc (.inr (.inr (hi s (List.mem_cons_self ..) e))))
      obtain ⟨i1, i2⟩ := ents_strict hd r (entOf s p d) h2 (fun t ht => entOf_mono hd (h1 t ht)) (fun t ht e => entOf_inj hd e)
      refine ⟨List.pairwise_cons.2 ⟨i2, i1⟩, fun x hx => ?_⟩
      rcases List.mem_cons.1 hx with rfl | hx
      · exact hlt
      · exact bl_trans _ _ _ hlt (i2 x hx)
theorem ents_sorted {p d : Str} (hd : d.length ≤ 1) {l : List Str} (ha : Asc l) : (ents p d [] l).Pairwise (fun x y => Op.bytesLess x.1 y.1 = true) :=
  (ents_strict hd l ([], false) ha (fun s _ => bl_nilR _) (fun s _ h => entOf_none0 hd h)).1
theorem ents_after0 {p d a : Str} (hd : d.length ≤ 1) : ∀ (l : List Str) (l0 la : Ent), Asc l → (∀ s ∈ l, Op.bytesLess (entOf s p d).1 l0.1 = false) → (∀ s ∈ l, (entOf s p d).1 = l0.1 → entOf s p d = l0) →
    (la = l0 ∧ Op.bytesLess a l0.1 = true ∨ Op.bytesLess a l0.1 = false ∧ Op.bytesLess a la.1 = false) →
    entsFrom p d a la l = (entsFrom p d [] l0 l).filter fun x => Op.bytesLess a x.1
  | [], _, _, _, _, _, _ => rfl
  | s :: r, l0, la, ha, hm, hi, hc => by
    obtain ⟨h1, h2⟩ := List.pairwise_cons.1 ha
    have hm' := fun t ht => hm t (List.mem_cons_of_mem s ht)
    have hi' := fun t ht => hi t (List.mem_cons_of_mem s ht)
    obtain ⟨x, hx⟩ : ∃ x, entOf s p d = x := ⟨_, rfl⟩
    rw [entsFrom, entsFrom, hx]
    by_cases hb : begins s p = false
    · rw [if_pos (.inl hb), if_pos (.inl hb)]; exact ents_after0 hd r l0 la h2 hm' hi' hc
    by_cases hn : Op.bytesLess [] x.1 = false
    · have h0 := (bl_nil_iff _).1 hn
      rw [if_pos (.inr (.inl (by rw [h0]; exact bl_nilR a))), if_pos (.inr (.inl hn))]; exact ents_after0 hd r l0 la h2 hm' hi' hc
    by_cases he : x = l0
    · rw [if_pos (c := _ ∨ _ ∨ x = l0) (.inr (.inr he)), if_pos]
      · exact ents_after0 hd r l0 la h2 hm' hi' hc
      · rcases hc with ⟨h, -⟩ | ⟨h, -⟩
        · exact .inr (.inr (he.trans h.symm))
        · exact .inr (.inl (by rw [he]; exact h))
    · rw [if_neg (c := _ ∨ _ ∨ x = l0) (by rintro (h | h | h); exact hb h; exact hn h; exact he h)]
      have hlt : Op.bytesLess l0.1 x.1 = true := bl_trich (by rw [← hx]; exact hm s (List.mem_cons_self ..)) (fun e => he (by rw [← hx] at e ⊢; exact hi s (List.mem_cons_self ..) e))
      have hm2 : ∀ t ∈ r, Op.bytesLess (entOf t p d).1 x.1 = false := fun t ht => by rw [← hx]; exact entOf_mono hd (h1 t ht)
      have hi2 : ∀ t ∈ r, (entOf t p d).1 = x.1 → entOf t p d = x := fun t ht e => by rw [← hx] at e ⊢; exact entOf_inj hd e
      cases hax : Op.bytesLess a x.1 with
      | false =>
        rw [if_pos (.inr (.inl rfl)), List.filter_cons_of_neg (by rw [hax]; simp)]
        refine ents_after0 hd r x la h2 hm2 hi2 (.inr ⟨hax, ?_⟩)
        rcases hc with ⟨h, h'⟩ | ⟨h, h'⟩
        · have h3 := bl_trans _ _ _ h' hlt; rw [hax] at h3; cases h3
        · exact h'
      | true =>
        have hne : x ≠ la := by
          rintro rfl
          rcases hc with ⟨h, -⟩ | ⟨-, h⟩
          · exact he h
          · rw [hax] at h; cases h
        rw [if_neg (by rintro (h | h | h); exact hb h; cases h; exact hne h), List.filter_cons_of_pos (by rw [hax])]
        rw [ents_after0 hd r x x h2 hm2 hi2 (.inl ⟨rfl, hax⟩)]
theorem ents_after {p d : Str} (hd : d.length ≤ 1) {l : List Str} (ha : Asc l) (a : Str) : ents p d a l = (ents p d [] l).filter fun x => Op.bytesLess a x.1 := by
  unfold ents
  exact ents_after0 hd l ([], false) (a, false) ha (fun s _ => bl_nilR _) (fun s _ h => entOf_none0 hd h) (.inr ⟨bl_nilR a, bytesLess_irrefl a⟩)
/-- Behind an entry stand those behind it. -/
theorem filter_drop : ∀ (E : List Ent) (k : Nat) (h : k < E.length), E.Pairwise (fun x y => Op.bytesLess x.1 y.1 = true) → (E.filter fun x => Op.bytesLess E[k].1 x.1) = E.drop (k + 1)
  | x :: E, 0, _, hp => by
    obtain ⟨h1, -⟩ := List.pairwise_cons.1 hp
    show ((x :: E).filter fun y => Op.bytesLess x.1 y.1) = E
    rw [List.filter_cons_of_neg (by rw [bytesLess_irrefl]; simp)]
    exact List.filter_eq_self.2 fun y hy => h1 y hy
  | x :: E, k + 1, h, hp => by
    obtain ⟨h1, h2⟩ := List.pairwise_cons.1 hp
    have hk : k < E.length := by simpa using h
    show ((x :: E).filter fun y => Op.bytesLess (E[k]).1 y.1) = E.drop (k + 1)
    rw [List.filter_cons_of_neg (by rw [bl_asymm _ _ (h1 _ (List.getElem_mem hk))]; simp)]
    exact filter_drop E k hk h2
/-- The names in a list of entries. -/
theorem names_ents {p d : Str} (hd : d.length ≤ 1) : ∀ (l : List Str) (last : Ent), Asc l → (∀ s ∈ l, s ≠ [] → last ≠ (s, false)) →
    namesOf (entsFrom p d [] last l) = l.filter fun s => begins s p && !s.isEmpty && !(entOf s p d).2
  | [], _, _, _ => rfl
  | s :: r, last, ha, hl => by
    obtain ⟨h1, h2⟩ := List.pairwise_cons.1 ha
    have hl' := fun t ht => hl t (List.mem_cons_of_mem s ht)
    unfold entsFrom
    by_cases hb : begins s p = false
    · rw [if_pos (.inl hb), List.filter_cons_of_neg (by rw [hb]; simp)]; exact names_ents hd r last h2 hl'
    by_cases hn : Op.bytesLess [] (entOf s p d).1 = false
    · have h0 := entOf_none0 hd ((bl_nil_iff _).1 hn)
      have hs := entOf_name hd (congrArg Prod.snd h0)
      rw [h0] at hs
      rw [if_pos (.inr (.inl hn)), List.filter_cons_of_neg (by rw [← hs]; simp)]; exact names_ents hd r last h2 hl'
    have hb' : begins s p = true := by cases h : begins s p <;> simp_all
    cases hc : (entOf s p d).2 with
    | true =>
      rw [List.filter_cons_of_neg (by rw [hc]; simp)]
      split
      · exact names_ents hd r last h2 hl'
      · have : namesOf (entOf s p d :: entsFrom p d [] (entOf s p d) r) = namesOf (entsFrom p d [] (entOf s p d) r) := by unfold namesOf; rw [List.filter_cons_of_neg (by rw [hc]; simp)]
        rw [this]
        exact names_ents hd r _ h2 (fun t _ _ e => by rw [e] at hc; cases hc)
    | false =>
      have hs := entOf_name hd hc
      have hse : s ≠ [] := fun e => hn (by rw [hs, e]; rfl)
      have he : entOf s p d = (s, false) := Prod.ext hs hc
      rw [if_neg (by rintro (h | h | h); exact hb h; exact hn h; exact hl s (List.mem_cons_self ..) hse (by rw [← h, he])), List.filter_cons_of_pos (by rw [hb', hc]; cases s <;> simp_all)]
      have : namesOf (entOf s p d :: entsFrom p d [] (entOf s p d) r) = s :: namesOf (entsFrom p d [] (entOf s p d) r) := by unfold namesOf; rw [List.filter_cons_of_pos (by rw [hc]; rfl), List.map_cons, hs]
      rw [this, names_ents hd r _ h2 (fun t ht _ e => by rw [he] at e; have := (Prod.mk.inj e).1; have h3 := h1 t ht; rw [this, bytesLess_irrefl] at h3; cases h3)]
end Go.Amb
