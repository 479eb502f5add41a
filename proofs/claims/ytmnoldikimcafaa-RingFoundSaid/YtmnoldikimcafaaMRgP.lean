/- Plain laws: what a disk keeps of records that were appended, and what is found. -/
import Derived.Test.YtmnoldikimcafaaMRgT
namespace Go.Proofs.Ytmnoldikimcafaa
open Go.RowKit Go.Amb Go.Shelf
set_option linter.unusedVariables false
set_option linter.unusedSimpArgs false
set_option maxRecDepth 100000
def zer : List UInt8 := List.replicate 128 0
def wr36 (l : List S5) : List (List UInt8 × Nat) := l.map fun x => (slotB x, (3 + x.q % 36).toNat)
/-- The journal of RingFound: A was synced, B since; K: the sectors. -/
structure Jr (K : List (List UInt8)) (A B : List (List UInt8)) (ep : Int) (d : Dk) (r : Rn) : Prop where
  ok : okAll ep 0 (A ++ B)
  le : sumN (A ++ B) ≤ 36
  r : r = ⟨3, 36, 0, (sumN (A ++ B) : Nat), ep, recsL 0 (A ++ B)⟩
  d : d = ⟨K, wr36 (cutAll ep (sumN A : Nat) B), -1, false⟩
theorem recsL_snoc (s : List UInt8) : ∀ (a : List (List UInt8)) (q : Int), recsL q (a ++ [s]) = recsL q a ++ [⟨q + sumN a, q + sumN a + pieceN s, s⟩] := by
  intro a
  induction a with
  | nil => intro q; simp [recsL, sumN]
  | cons x a ih =>
    intro q
    simp only [List.cons_append, recsL, ih, sumN]
    rw [show q + (pieceN x : Int) + (sumN a : Int) = q + ((pieceN x + sumN a : Nat) : Int) by omega]
theorem cutAll_get (ep : Int) : ∀ (a : List (List UInt8)) (q : Int), okAll ep q a → ∀ (i : Nat) x, (cutAll ep q a)[i]? = some x → x.q = q + i ∧ x.e = ep ∧ rightS x = true := by
  intro a
  induction a with
  | nil => intro q _ i x h; simp [cutAll] at h
  | cons s r ih =>
    intro q hok i x h
    rw [cutAll] at h
    by_cases hi : i < pieceN s
    · rw [List.getElem?_append_left (by rw [cutS_length]; exact hi), cutS_get _ _ _ _ hi] at h
      injection h with h
      subst h
      exact ⟨rfl, rfl, slotI_right hok.1 hi⟩
    · rw [List.getElem?_append_right (by rw [cutS_length]; omega), cutS_length] at h
      have := ih _ hok.2 _ _ h
      exact ⟨by rw [this.1]; omega, this.2⟩
theorem Jr.app {K : List (List UInt8)} {A B : List (List UInt8)} {ep : Int} {d : Dk} {r : Rn} (h : Jr K A B ep d r) (s : List UInt8) (h0 : appE r s = 0) : Jr K A (B ++ [s]) ep (appDs d r s) (appRs r s) := by
  have hc : cutOk r.ep r.nx s ∧ ¬ (r.cn : Int) - (r.nx - r.st) < pieceN s := by
    unfold appE at h0
    split at h0
    · rename_i hc
      refine ⟨hc, fun hr => ?_⟩
      rw [if_pos hr] at h0; cases h0
    · split at h0 <;> cases h0
  unfold appDs appRs
  rw [if_pos h0, if_pos h0]
  obtain ⟨h1, h2, rfl, rfl⟩ := h
  simp only at hc
  obtain ⟨hc, hr⟩ := hc
  have e1 : A ++ (B ++ [s]) = (A ++ B) ++ [s] := (List.append_assoc _ _ _).symm
  have e2 : sumN (A ++ (B ++ [s])) = sumN (A ++ B) + pieceN s := by rw [e1, sumN_append]; rfl
  refine ⟨?_, ?_, ?_, ?_⟩
  · rw [e1, okAll_append]
    exact ⟨h1, by rw [Int.zero_add]; exact hc, trivial⟩
  · rw [e2]; omega
  · unfold appR
    rw [e2, e1, recsL_snoc]
    simp only [Rn.mk.injEq, true_and, Int.zero_add]
    exact ⟨by omega, trivial⟩
  · unfold appD wrP
    have e3 : cutAll ep (sumN A : Nat) (B ++ [s]) = cutAll ep (sumN A : Nat) B ++ cutS ep (sumN (A ++ B) : Nat) s := by
      rw [cutAll_append]
      congr 1
      rw [cutAll, cutAll, List.append_nil]
      congr 1
      rw [sumN_append]; omega
    rw [e3]
    unfold wr36
    rw [List.map_append]
    rfl
theorem Jr.same {d : Dk} {r : Rn} {s : List UInt8} (h0 : appE r s ≠ 0) : appDs d r s = d ∧ appRs r s = r := by
  unfold appDs appRs
  rw [if_neg h0, if_neg h0]
  exact ⟨rfl, rfl⟩
/-! ### What is kept -/
theorem keep_or (K : List (List UInt8)) (P : List (List UInt8 × Nat)) (pick : Nat → Bool) (j : Nat) (hj : j < K.length) : ∀ n, (keepK K P pick n)[j]? = K[j]? ∧ (∀ k p, k < n → P[k]? = some p → pick k = true → p.2 ≠ j) ∨ ∃ k p, k < n ∧ P[k]? = some p ∧ p.2 = j ∧ (keepK K P pick n)[j]? = some p.1 := by
  intro n
  induction n with
  | zero => exact .inl ⟨rfl, fun k p h => absurd h (Nat.not_lt_zero _)⟩
  | succ n ih =>
    rw [keepK]
    split
    · rename_i p hp
      by_cases hk : pick n = true
      · rw [if_pos hk]
        by_cases hpj : p.2 = j
        · exact .inr ⟨n, p, Nat.lt_succ_self _, hp, hpj, by subst hpj; rw [List.getElem?_set_self (by rw [keepK_length]; exact hj)]⟩
        · rw [List.getElem?_set_ne hpj]
          rcases ih with ⟨h1, h2⟩ | ⟨k, p', h1, h2, h3, h4⟩
          · refine .inl ⟨h1, fun k p' h3 h4 h5 => ?_⟩
            rcases Nat.lt_succ_iff_lt_or_eq.1 h3 with h3 | rfl
            · exact h2 k p' h3 h4 h5
            · rw [hp] at h4; injection h4 with h4; rw [← h4]; exact hpj
          · exact .inr ⟨k, p', by omega, h2, h3, h4⟩
      · rw [if_neg hk]
        rcases ih with ⟨h1, h2⟩ | ⟨k, p', h1, h2, h3, h4⟩
        · refine .inl ⟨h1, fun k p' h3 h4 h5 => ?_⟩
          rcases Nat.lt_succ_iff_lt_or_eq.1 h3 with h3 | rfl
          · exact h2 k p' h3 h4 h5
          · exact absurd h5 hk
        · exact .inr ⟨k, p', by omega, h2, h3, h4⟩
    · rename_i hp
      rcases ih with ⟨h1, h2⟩ | ⟨k, p', h1, h2, h3, h4⟩
      · refine .inl ⟨h1, fun k p' h3 h4 h5 => ?_⟩
        rcases Nat.lt_succ_iff_lt_or_eq.1 h3 with h3 | rfl
        · exact h2 k p' h3 h4 h5
        · rw [hp] at h4; cases h4
      · exact .inr ⟨k, p', by omega, h2, h3, h4⟩
/-- What the sectors have of the slots X: each, or noughts, and these not ahead of m. -/
structure Kept (K : List (List UInt8)) (X : List S5) (m : Nat) : Prop where
  n : K.length = 40
  at_ : ∀ i, i < 36 → (∃ x, X[i]? = some x ∧ K[3 + i]? = some (slotB x)) ∨ m ≤ i ∧ K[3 + i]? = some zer
theorem wr36_get {ep : Int} {q : Nat} {a : List (List UInt8)} (hok : okAll ep (q : Int) a) (hl : q + sumN a ≤ 36) {k : Nat} {p : List UInt8 × Nat} (h : (wr36 (cutAll ep (q : Int) a))[k]? = some p) :
    ∃ x, (cutAll ep (q : Int) a)[k]? = some x ∧ p.1 = slotB x ∧ p.2 = 3 + (q + k) ∧ k < sumN a := by
  unfold wr36 at h
  rw [List.getElem?_map, Option.map_eq_some_iff] at h
  obtain ⟨x, hx, rfl⟩ := h
  have hk : k < sumN a := by have := (List.getElem?_eq_some_iff.1 hx).1; rwa [cutAll_length] at this
  obtain ⟨hq, -, -⟩ := cutAll_get ep a _ hok k x hx
  refine ⟨x, hx, rfl, ?_, hk⟩
  show (3 + x.q % 36).toNat = _
  rw [hq]; omega
theorem kept_keep {K : List (List UInt8)} {A B : List (List UInt8)} {ep : Int} (hok : okAll ep 0 (A ++ B)) (hl : sumN (A ++ B) ≤ 36) (hK : Kept K (cutAll ep 0 A) (sumN A)) (pick : Nat → Bool) (b : Bool) (hb : b = true → ∀ k, pick k = true) :
    Kept (keepK K (wr36 (cutAll ep (sumN A : Nat) B)) pick (wr36 (cutAll ep (sumN A : Nat) B)).length) (cutAll ep 0 (A ++ B)) (if b then sumN (A ++ B) else sumN A) := by
  have hok2 := (okAll_append ep A 0 B).1 hok
  rw [Int.zero_add] at hok2
  have hl2 : sumN A + sumN B ≤ 36 := by rw [← sumN_append]; exact hl
  have hXl : (cutAll ep 0 (A ++ B)) = cutAll ep 0 A ++ cutAll ep (sumN A : Nat) B := by rw [cutAll_append, Int.zero_add]
  refine ⟨by rw [keepK_length]; exact hK.n, fun i hi => ?_⟩
  have hPl : (wr36 (cutAll ep (sumN A : Nat) B)).length = sumN B := by unfold wr36; rw [List.length_map, cutAll_length]
  rcases keep_or K (wr36 (cutAll ep (sumN A : Nat) B)) pick (3 + i) (by rw [hK.n]; omega) (wr36 (cutAll ep (sumN A : Nat) B)).length with ⟨h1, h2⟩ | ⟨k, p, h1, h2, h3, h4⟩
  · rw [h1]
    rcases hK.at_ i hi with ⟨x, hx, hKx⟩ | ⟨hm, hz⟩
    · refine .inl ⟨x, ?_, hKx⟩
      rw [hXl, List.getElem?_append_left (List.getElem?_eq_some_iff.1 hx).1]; exact hx
    · refine .inr ⟨?_, hz⟩
      split
      · rename_i hbt
        have hall := hb hbt
        rw [sumN_append]
        by_cases hin : i < sumN A + sumN B
        · exfalso
          have hk : i - sumN A < (wr36 (cutAll ep (sumN A : Nat) B)).length := by rw [hPl]; omega
          obtain ⟨x, hx, e1, e2, e3⟩ := wr36_get hok2.2 hl2 (List.getElem?_eq_getElem hk)
          exact h2 _ _ hk (List.getElem?_eq_getElem hk) (hall _) (by rw [e2]; omega)
        · omega
      · exact hm
  · obtain ⟨x, hx, e1, e2, e3⟩ := wr36_get hok2.2 hl2 h2
    refine .inl ⟨x, ?_, by rw [h4, e1]⟩
    have hik : i = sumN A + k := by omega
    rw [hXl, List.getElem?_append_right (by rw [cutAll_length]; omega), cutAll_length, hik, Nat.add_sub_cancel_left]
    exact hx
end Go.Proofs.Ytmnoldikimcafaa

namespace Go.Proofs.Ytmnoldikimcafaa
open Go.RowKit Go.Amb Go.Shelf
set_option linter.unusedVariables false
set_option linter.unusedSimpArgs false
set_option maxRecDepth 100000
theorem readS_zer : readS zer = (slot0, 4) := by
  rcases readS_cases zer with ⟨t, h1, h2, h3⟩ | h
  · exfalso
    have h4 := congrArg (fun l : List UInt8 => l[0]?) h3
    unfold slotB slotBody zer at h4
    simp at h4
  · exact h
theorem kept_at {K : List (List UInt8)} {X : List S5} {m : Nat} (hK : Kept K X m) (hX : ∀ (i : Nat) x, X[i]? = some x → rightS x = true) {i : Nat} (hi : i < 36) :
    (∃ x, X[i]? = some x ∧ atS ⟨K, [], -1, false⟩ (3 + (i : Int)) = (x, true)) ∨ m ≤ i ∧ atS ⟨K, [], -1, false⟩ (3 + (i : Int)) = (slot0, false) := by
  have hw : (⟨K, [], -1, false⟩ : Dk).within (3 + (i : Int)) = 0 := by
    unfold Dk.within
    rw [if_neg (by simp), if_neg (by rw [hK.n]; omega)]
  have hn : (3 + (i : Int)).toNat = 3 + i := by omega
  unfold atS
  rw [if_pos hw, hn]
  have hh : (⟨K, [], -1, false⟩ : Dk).has (3 + i) = (K[3 + i]?).getD [] := by
    unfold Dk.has lastAt
    simp
  rw [hh]
  rcases hK.at_ i hi with ⟨x, hx, hKx⟩ | ⟨hm, hz⟩
  · refine .inl ⟨x, hx, ?_⟩
    rw [hKx, Option.getD_some, (readS_slotB x (hX i x hx)).1]
    rfl
  · refine .inr ⟨hm, ?_⟩
    rw [hz, Option.getD_some, readS_zer]
    rfl
/-- The slots that are gone through: X's first ones, at least m of them. -/
theorem run_kept {d : Dk} {r : Rn} {X : List S5} {ep : Int} {m : Nat} (hp : ∀ i : Nat, i < 36 → (∃ x, X[i]? = some x ∧ atS d (r.place (r.st + i)) = (x, true)) ∨ m ≤ i ∧ atS d (r.place (r.st + i)) = (slot0, false))
    (hX : ∀ (i : Nat) x, X[i]? = some x → x.q = r.st + i ∧ x.e = ep) : ∀ (n k : Nat) (e : Int), k + n = 36 → e ≤ ep → k ≤ X.length → (m ≤ 36) →
    ∃ t, runS d r e k n = (X.drop k).take t ∧ k + t ≤ X.length ∧ (k ≤ m → m ≤ k + t) := by
  intro n
  induction n with
  | zero => intro k e h1 h2 h3 h4; exact ⟨0, by simp [runS], by omega, fun h => by omega⟩
  | succ n ih =>
    intro k e h1 h2 h3 h4
    rcases hp k (by omega) with ⟨x, hx, ha⟩ | ⟨hm, ha⟩
    · obtain ⟨hq, he⟩ := hX k x hx
      obtain ⟨hkl, hxk⟩ := List.getElem?_eq_some_iff.1 hx
      obtain ⟨t, h5, h6, h7⟩ := ih (k + 1) x.e (by omega) (by omega) (by omega) h4
      refine ⟨t + 1, ?_, by omega, fun h => ?_⟩
      · rw [runS, ha, if_pos ⟨rfl, hq, by show ¬ x.e < e; omega⟩]
        simp only
        rw [h5, List.drop_eq_getElem_cons hkl, hxk]
        rfl
      · by_cases hkm : k + 1 ≤ m
        · have := h7 hkm; omega
        · omega
    · refine ⟨0, ?_, by omega, fun h => by omega⟩
      rw [runS, ha, if_neg (by simp)]
      simp
theorem young_kept {d : Dk} {X : List S5} {ep : Int} {m : Nat} (hp : ∀ i : Nat, i < 36 → (∃ x, X[i]? = some x ∧ atS d (3 + (i : Int)) = (x, true)) ∨ m ≤ i ∧ atS d (3 + (i : Int)) = (slot0, false))
    (hX : ∀ (i : Nat) x, X[i]? = some x → x.e = ep) (e : Int) (he : e ≤ ep) : ∀ n, n ≤ 36 → e ≤ youngS d 3 e n ∧ youngS d 3 e n ≤ ep := by
  intro n
  induction n with
  | zero => intro _; exact ⟨Int.le_refl _, he⟩
  | succ n ih =>
    intro hn
    obtain ⟨h1, h2⟩ := ih (by omega)
    rw [youngS]
    rcases hp n (by omega) with ⟨x, hx, ha⟩ | ⟨hm, ha⟩
    · have := hX n x hx
      rw [show ((3 : Nat) : Int) + (n : Int) = 3 + (n : Int) from rfl, ha, if_pos rfl]
      simp only
      omega
    · rw [show ((3 : Nat) : Int) + (n : Int) = 3 + (n : Int) from rfl, ha, if_neg (by simp)]
      exact ⟨h1, h2⟩
theorem zer_kept : Kept (List.replicate 40 zer) (cutAll 0 0 []) 0 := ⟨by simp, fun i hi => .inr ⟨Nat.zero_le _, by rw [List.getElem?_replicate, if_pos (by omega)]⟩⟩
theorem sum_ge : ∀ a : List (List UInt8), a.length ≤ sumN a := by
  intro a
  induction a with
  | nil => exact Nat.le_refl _
  | cons s r ih => have := pieceN_pos s; simp only [List.length_cons, sumN]; omega
/-- What is found: as many records as were synced, and maybe more, in order. -/
theorem found {K : List (List UInt8)} {A B : List (List UInt8)} {e : Int} (he : 0 ≤ e ∧ e ≤ 1000000) (hok : okAll (e + 1) 0 (A ++ B)) (hl : sumN (A ++ B) ≤ 36) (hK : Kept K (cutAll (e + 1) 0 (A ++ B)) (sumN A)) :
    (openS ⟨K, [], -1, false⟩ 3 36 0 e).Ok ∧ (0 ≤ youngS ⟨K, [], -1, false⟩ 3 e 36 ∧ youngS ⟨K, [], -1, false⟩ 3 e 36 < 2147483647) ∧ e < (openS ⟨K, [], -1, false⟩ 3 36 0 e).ep ∧
    ∃ c, A.length ≤ c ∧ c ≤ (A ++ B).length ∧ (openS ⟨K, [], -1, false⟩ 3 36 0 e).L = (recsL 0 (A ++ B)).take c := by
  have hg := cutAll_get (e + 1) (A ++ B) 0 hok
  have hat := fun i hi => kept_at hK (fun i x h => (hg i x h).2.2) (i := i) hi
  have hy := young_kept hat (fun i x h => (hg i x h).2.1) e (by omega) 36 (Nat.le_refl _)
  have hpl : ∀ i : Nat, i < 36 → Rn.place ⟨3, 36, 0, 0, 0, []⟩ (0 + (i : Int)) = 3 + (i : Int) := fun i hi => by unfold Rn.place; simp only; omega
  have hA36 : sumN A ≤ 36 := by rw [sumN_append] at hl; omega
  obtain ⟨t, ht1, ht2, ht3⟩ := run_kept (d := ⟨K, [], -1, false⟩) (r := ⟨3, 36, 0, 0, 0, []⟩) (X := cutAll (e + 1) 0 (A ++ B)) (ep := e + 1) (m := sumN A) (fun i hi => by
    show (∃ x, _ ∧ atS _ (Rn.place ⟨3, 36, 0, 0, 0, []⟩ (0 + (i : Int))) = _) ∨ _ ∧ atS _ (Rn.place ⟨3, 36, 0, 0, 0, []⟩ (0 + (i : Int))) = _
    rw [hpl i hi]; exact hat i hi) (fun i x h => ⟨(hg i x h).1, (hg i x h).2.1⟩) 36 0 e rfl (by omega) (Nat.zero_le _) hA36
  rw [List.drop_zero] at ht1
  have ht4 := ht3 (Nat.zero_le _)
  rw [Nat.zero_add] at ht4 ht2
  rw [cutAll_length] at ht2
  obtain ⟨j1, j2⟩ := joinS_all hok t
  have hlen := sum_ge (A ++ B)
  have hwl := whole_le (A ++ B) t
  have hcA : A.length ≤ wholeN (A ++ B) t := by
    by_cases hA0 : A.length = 0
    · omega
    · have hk := (whole_iff (A ++ B) t (A.length - 1) (by rw [List.length_append]; omega)).1 (by
        rw [show A.length - 1 + 1 = A.length by omega, List.take_left']
        · omega
        · rfl)
      omega
  have hos : openS ⟨K, [], -1, false⟩ 3 36 0 e = if (cutAll (e + 1) 0 (A ++ B)).take t = [] then ⟨3, 36, 0, 0, youngS ⟨K, [], -1, false⟩ 3 e 36 + 1, []⟩ else ⟨3, 36, 0, (joinS ((cutAll (e + 1) 0 (A ++ B)).take t)).next, youngS ⟨K, [], -1, false⟩ 3 e 36 + 1, (joinS ((cutAll (e + 1) 0 (A ++ B)).take t)).out⟩ := by
    unfold openS
    rw [ht1]
  have hrl := recsL_length (A ++ B) 0
  rw [hos]
  by_cases hX : (cutAll (e + 1) 0 (A ++ B)).take t = []
  · rw [if_pos hX]
    have hXl := congrArg List.length hX
    rw [List.length_take, cutAll_length, List.length_nil] at hXl
    have ht0 : t = 0 := by omega
    refine ⟨okOf _ (by simp only [List.length_nil]; omega), ⟨by omega, by omega⟩, by show e < _ + 1; omega, 0, ?_, Nat.zero_le _, by simp⟩
    subst ht0
    have := sum_ge A
    omega
  · rw [if_neg hX, j1, j2]
    refine ⟨okOf _ ?_, ⟨by omega, by omega⟩, by show e < _ + 1; omega, _, hcA, hwl, rfl⟩
    simp only
    have h5 : ((recsL 0 (A ++ B)).take (wholeN (A ++ B) t)).length ≤ 100000 := by rw [List.length_take, hrl]; omega
    have h6 : sumN ((A ++ B).take (wholeN (A ++ B) t)) ≤ sumN (A ++ B) := by
      have := sumN_append ((A ++ B).take (wholeN (A ++ B) t)) ((A ++ B).drop (wholeN (A ++ B) t))
      rw [List.take_append_drop] at this
      omega
    refine ⟨by omega, by omega, by omega, by omega, ?_, ?_, by omega, by omega, h5⟩
    · split <;> omega
    · split <;> omega
end Go.Proofs.Ytmnoldikimcafaa

namespace Go.Proofs.Ytmnoldikimcafaa
open Go.RowKit Go.Amb Go.Shelf
set_option linter.unusedVariables false
set_option linter.unusedSimpArgs false
set_option maxRecDepth 100000
theorem recs_at {w : World} {v : Value} {L : List R3} (h : Has w 3 v L.length (jc L)) : ∃ a c, v = .slice a L.length c ∧ ∀ k (hk : k < L.length), ∃ g off, a = some ⟨g, off, none⟩ ∧ w.cell? ⟨g, off + k * 3 + 2, none⟩ = some (.string ⟨L[k].d.toArray⟩) := by
  obtain ⟨_, a, c, rfl, _, _, h3⟩ := h
  refine ⟨a, c, rfl, fun k hk => ?_⟩
  rcases h3 with h3 | ⟨g, off, rfl, hc⟩
  · omega
  · exact ⟨g, off, rfl, hc _ _ (jc_get L k hk).2.2⟩
set_option maxHeartbeats 1000000 in
theorem lSame (va vb : Value) (L : List R3) (T : List (List UInt8)) (w : World) (hL : Has w 3 va L.length (jc L)) (hT : TxtsAt w vb T) (he : L.map (·.d) = T) (hm : L.length ≤ 100000) : Calls Try.prog 13 #[va, vb] w (Ret (.bool true) w) := by
  obtain ⟨a, c, rfl, hx⟩ := recs_at hL
  obtain ⟨b, cb, rfl, hy⟩ := txts_at hT
  have hl : T.length = L.length := by rw [← he, List.length_map]
  have hd : Hid (∀ k (hk : k < L.length) (hk' : k < T.length), T[k] = L[k].d) := Lib.hid (fun k hk hk' => by subst he; simp)
  rw [hl]
  replace hx := Lib.hid hx
  replace hy := Lib.hid hy
  have hlh := Lib.hid hl
  obtain ⟨n, hn⟩ : ∃ n, L.length = n := ⟨_, rfl⟩
  have hnh := Lib.hid hn
  rw [hn] at hm ⊢
  clear hn hl he hL hT
  go_enter Try.func13, Try.ntmps13
  go_wp2_with fail
  go_loopw [5] (fun iv wr => ∃ (k : Nat), iv = .int .i64 (k : Int) ∧ k ≤ n ∧ Upd Non w wr) (fun iv _ => n - (intOf iv).toNat)
  case atStart => exact ⟨0, rfl, Nat.zero_le _, Upd.refl _ _⟩
  case round =>
    obtain ⟨k, rfl, hk, hU⟩ := hrel
    by_cases hlt : k < n
    · have hltI : (k : Int) < (n : Int) := by omega
      have hk0 : (0 : Int) ≤ (k : Int) := by omega
      have hkl : k < L.length := by rw [hnh.out]; exact hlt
      have hkt : k < T.length := by rw [hlh.out]; exact hkl
      obtain ⟨g, off, rfl, y0⟩ := hx.out k hkl
      obtain ⟨gb, ob, rfl, y1⟩ := hy.out k hkt
      have e := hd.out k hkl hkt
      have y0 := hU.cell y0 fun h => h
      have y1 := hU.cell y1 fun h => h
      rw [e] at y1
      generalize (L[k]'hkl).d = s at *
      clear e
      go_wp2_with fail
      go_quiet (fail)
      have hU2 := hU.trans (Upd.drewN Non wr nq) fun _ _ h => h
      go_wp2_with fail
      go_roundw
      case rel => exact ⟨k + 1, by go_num, by omega, hU2⟩
      case measure => simp [intOf]; omega
    · have hltI : ¬ (k : Int) < (n : Int) := by omega
      go_wp2_with fail
      go_ret
      exact ⟨rfl, hU⟩
theorem open_new (e : Int) (he : 0 ≤ e ∧ e ≤ 1000000) : openS (Dk.new 40) 3 36 0 e = ⟨3, 36, 0, 0, e + 1, []⟩ ∧ youngS (Dk.new 40) 3 e 36 = e := by
  have hat : ∀ i : Nat, i < 36 → atS (Dk.new 40) (3 + (i : Int)) = (slot0, false) := fun i hi => by
    rcases kept_at zer_kept (fun i x h => by simp [cutAll] at h) hi with ⟨x, hx, -⟩ | ⟨-, h⟩
    · simp [cutAll] at hx
    · exact h
  have hy : ∀ n, n ≤ 36 → youngS (Dk.new 40) 3 e n = e := by
    intro n
    induction n with
    | zero => intro _; rfl
    | succ n ih =>
      intro hn
      rw [youngS, show ((3 : Nat) : Int) + (n : Int) = 3 + (n : Int) from rfl, hat n (by omega), if_neg (by simp)]
      exact ih (by omega)
  have hr : runS (Dk.new 40) ⟨3, 36, 0, 0, 0, []⟩ e 0 36 = [] := by
    rw [runS]
    have h0 := hat 0 (by omega)
    rw [if_neg]
    rintro ⟨h1, -⟩
    have hp : Rn.place ⟨3, 36, 0, 0, 0, []⟩ ((⟨3, 36, 0, 0, 0, []⟩ : Rn).st + ((0 : Nat) : Int)) = 3 + ((0 : Nat) : Int) := by unfold Rn.place; simp
    rw [hp, h0] at h1
    cases h1
  refine ⟨?_, hy 36 (Nat.le_refl _)⟩
  unfold openS
  rw [hr, if_pos rfl, hy 36 (Nat.le_refl _)]
theorem jr_new (e : Int) : Jr (List.replicate 40 zer) [] [] (e + 1) (Dk.new 40) ⟨3, 36, 0, 0, e + 1, []⟩ := ⟨trivial, Nat.zero_le _, rfl, rfl⟩
theorem Jr.fit {K : List (List UInt8)} {A B : List (List UInt8)} {ep : Int} {d : Dk} {r : Rn} (h : Jr K A B ep d r) (hK : K.length = 40) : d.P.length + 200 ≤ 1000000 ∧ d.dd = false ∧ d.f = -1 ∧ r.fr + r.cn ≤ d.K.length ∧ r.L.length + 1 ≤ 100000 := by
  obtain ⟨h1, h2, rfl, rfl⟩ := h
  have h3 : sumN B ≤ 36 := by rw [sumN_append] at h2; omega
  have h4 := sum_ge (A ++ B)
  refine ⟨?_, rfl, rfl, by show 3 + 36 ≤ K.length; omega, ?_⟩
  · show (wr36 _).length + 200 ≤ _
    unfold wr36; rw [List.length_map, cutAll_length]; omega
  · show (recsL 0 (A ++ B)).length + 1 ≤ _
    rw [recsL_length]; omega
theorem Jr.flush {K : List (List UInt8)} {A : List (List UInt8)} {ep : Int} {d : Dk} {r : Rn} (h : Jr K [] A ep d r) (hK : Kept K (cutAll ep 0 []) 0) : d.flush.2 = 0 ∧ ∃ K', Jr K' A [] ep d.flush.1 r ∧ Kept K' (cutAll ep 0 A) (sumN A) := by
  obtain ⟨h1, h2, rfl, rfl⟩ := h
  have hk := kept_keep (A := []) (B := A) h1 h2 hK (fun _ => true) true (fun _ _ => rfl)
  rw [if_pos rfl] at hk
  refine ⟨rfl, _, ⟨?_, ?_, ?_, rfl⟩, hk⟩
  · rw [List.append_nil]; exact h1
  · rw [List.append_nil]; exact h2
  · rw [List.append_nil]; rfl
theorem Jr.crash {K : List (List UInt8)} {A B : List (List UInt8)} {ep : Int} {d : Dk} {r : Rn} (h : Jr K A B ep d r) (hK : Kept K (cutAll ep 0 A) (sumN A)) (l : List Int) : ∃ K', d.crash l = ⟨K', [], -1, false⟩ ∧ Kept K' (cutAll ep 0 (A ++ B)) (sumN A) := by
  obtain ⟨h1, h2, rfl, rfl⟩ := h
  have hk := kept_keep h1 h2 hK (fun k => decide ((k : Int) ∈ l)) false (fun h => by cases h)
  exact ⟨_, rfl, hk⟩
theorem recsL_data : ∀ (a : List (List UInt8)) (q : Int), (recsL q a).map (·.d) = a := by
  intro a
  induction a with
  | nil => intro q; rfl
  | cons s r ih => intro q; simp only [recsL, List.map_cons, ih]
end Go.Proofs.Ytmnoldikimcafaa
