/- What SuperEither says of a disk that dies within Save, in plain Lean. -/
import Derived.Test.YtgdkgnolkepgdaaMSuK
namespace Go.Proofs.Ytgdkgnolkepgdaa
set_option maxRecDepth 100000
open Go.RowKit Go.Amb
set_option linter.unusedVariables false
set_option linter.unusedSimpArgs false

/-- A disk that nothing pends on, alive, its fuse as told. -/
structure Al (d : Dk) (f : Int) : Prop where
  len : d.K.length = 4
  p : d.P = []
  f_ : d.f = f
  dd : d.dd = false
def fnd (a b : List UInt8) : Sp × Int × Int :=
  if (readR a).2 ≠ 0 ∧ (readR b).2 ≠ 0 then (Sp.none, 0, 4) else
  if (readR a).2 ≠ 0 ∨ ((readR b).2 = 0 ∧ (readR a).1.gen < (readR b).1.gen) then ((readR b).1, 1, 0) else ((readR a).1, 0, 0)
theorem find_al {d : Dk} {f : Int} (h : Al d f) : findR d = fnd (d.K.getD 0 []) (d.K.getD 1 []) := by
  obtain ⟨K, P, f', dd⟩ := d
  obtain ⟨h1, h2, h3, h4⟩ := h
  simp only at h1 h2 h3 h4
  subst h2 h3 h4
  have w0 : (⟨K, [], f', false⟩ : Dk).within 0 = 0 := by
    unfold Dk.within
    rw [if_neg (by simp), if_neg (by simp only; omega)]
  have w1 : (⟨K, [], f', false⟩ : Dk).within 1 = 0 := by
    unfold Dk.within
    rw [if_neg (by simp), if_neg (by simp only; omega)]
  have e0 : (⟨K, [], f', false⟩ : Dk).has 0 = K.getD 0 [] := by simp [Dk.has, lastAt]
  have e1 : (⟨K, [], f', false⟩ : Dk).has 1 = K.getD 1 [] := by simp [Dk.has, lastAt]
  unfold findR fnd
  rw [w0, w1, e0, e1]
  simp
theorem fnd_err (a b : List UInt8) : (fnd a b).2.2 = 0 ∨ fnd a b = (Sp.none, 0, 4) := by
  unfold fnd
  split
  · exact .inr rfl
  · split <;> exact .inl rfl
/-- No sector's super has a greater number than the one found. -/
theorem fnd_best {a b : List UInt8} (h : (fnd a b).2.2 = 0) : ((readR a).2 = 0 → (readR a).1.gen ≤ (fnd a b).1.gen) ∧ ((readR b).2 = 0 → (readR b).1.gen ≤ (fnd a b).1.gen) := by
  unfold fnd at h ⊢
  split at h
  · cases h
  · rename_i hn
    rw [if_neg hn]
    split
    · rename_i hs
      exact ⟨fun ha => by rcases hs with hs | hs; exact absurd ha hs; show (readR a).1.gen ≤ (readR b).1.gen; omega, fun _ => Int.le_refl _⟩
    · rename_i hs
      refine ⟨fun _ => Int.le_refl _, fun hb => ?_⟩
      show (readR b).1.gen ≤ (readR a).1.gen
      exact Int.not_lt.1 fun hlt => hs (.inr ⟨hb, hlt⟩)
theorem fnd_none {a b : List UInt8} (h : (fnd a b).2.2 ≠ 0) : (readR a).2 ≠ 0 ∧ (readR b).2 ≠ 0 := by
  unfold fnd at h
  split at h
  · rename_i hn; exact hn
  · split at h <;> exact absurd rfl h
/-- The next super, in the one sector or in the other: it is found. -/
theorem fnd_0 {b : List UInt8} {s : Sp} (hs : SpOk s) (h : (readR b).2 = 0 → (readR b).1.gen < s.gen) : fnd (full (putS s)) b = (s, 0, 0) := by
  unfold fnd
  rw [bytes_back hs, if_neg (fun e => e.1 rfl), if_neg (fun e => e.elim (fun e => e rfl) (fun e => by have := h e.1; have h2 := e.2; simp only at h2; omega))]
theorem fnd_1 {a : List UInt8} {s : Sp} (hs : SpOk s) (h : (readR a).2 = 0 → (readR a).1.gen < s.gen) : fnd a (full (putS s)) = (s, 1, 0) := by
  unfold fnd
  rw [bytes_back hs, if_neg (fun e => e.2 rfl)]
  by_cases ha : (readR a).2 = 0
  · rw [if_pos (.inr ⟨rfl, h ha⟩)]
  · rw [if_pos (.inl ha)]
/-- What Save, on a fuse, and a crash leave. -/
theorem save_crash {d : Dk} {f : Int} (h : Al d f) (hf : -1 ≤ f) (s : Sp) (G : Int) (hne : ¬ ((findR d).2.2 ≠ 0 ∧ (findR d).2.2 ≠ 4)) (hG : nextG d = G) (h0 : 0 ≤ G) (h1 : G ≤ 1152921504606846976) (hok : SpOk (s.at_ G)) (l : List Int) :
    let W := full (putS (s.at_ G))
    let r := saveR d s
    (r.2 = (s.at_ G, 0) ∧ r.1.crash l = ⟨d.K.set (G % 2).toNat W, [], -1, false⟩) ∨
    (r.2 = (Sp.none, 20) ∧ (r.1.crash l = ⟨d.K, [], -1, false⟩ ∨ r.1.crash l = ⟨d.K.set (G % 2).toNat W, [], -1, false⟩)) := by
  have hp : (putS (s.at_ G)).length ≤ 128 := by rw [putS_length]; decide
  have hp2 : ¬ 128 < (putS (s.at_ G)).length := by omega
  have hgm : ¬ 1152921504606846976 < G := by omega
  have e1 := @save_w d s G hne hG hgm hok
  have e2 := @save_f d s G hne hG hgm hok
  have e3 := @save_ok d s G hne hG hgm hok
  clear hne hG
  generalize putS (s.at_ G) = p at *
  obtain ⟨K, P, f', dd⟩ := d
  obtain ⟨g1, g2, g3, g4⟩ := h
  simp only at g1 g2 g3 g4
  subst g2 g3 g4
  have hw : (⟨K, [], f', false⟩ : Dk).within (G % 2) = 0 := by
    have : ¬ (G % 2 < 0 ∨ (K.length : Int) ≤ G % 2) := by omega
    simp [Dk.within, this]
  by_cases c0 : f' = 0
  · subst c0
    have hb : (⟨K, [], 0, false⟩ : Dk).burn = (⟨K, [], 0, true⟩, 20) := rfl
    have hwr : (⟨K, [], 0, false⟩ : Dk).write (G % 2) p = (⟨K, [], 0, true⟩, 20) := by
      unfold Dk.write
      rw [hw, hb]
      simp [hp2]
    rw [hwr] at e1
    rw [e1 (by simp)]
    exact .inr ⟨rfl, .inl rfl⟩
  · have hb : ∃ f1, (⟨K, [], f', false⟩ : Dk).burn = (⟨K, [], f1, false⟩, 0) := by
      by_cases c1 : 0 < f'
      · exact ⟨f' - 1, by simp [Dk.burn, c0, c1]⟩
      · exact ⟨f', by simp [Dk.burn, c0, c1]⟩
    obtain ⟨f1, hb⟩ := hb
    have hwr : (⟨K, [], f', false⟩ : Dk).write (G % 2) p = (⟨K, [(full p, (G % 2).toNat)], f1, false⟩, 0) := by
      unfold Dk.write
      rw [hw, hb]
      simp [hp2]
    rw [hwr] at e2 e3
    by_cases c2 : f1 = 0
    · subst c2
      have hfl : (⟨K, [(full p, (G % 2).toNat)], 0, false⟩ : Dk).flush = (⟨K, [(full p, (G % 2).toNat)], 0, true⟩, 20) := rfl
      rw [hfl] at e2
      rw [e2 rfl (by simp)]
      refine .inr ⟨rfl, ?_⟩
      by_cases c3 : ((0 : Nat) : Int) ∈ l
      · right; simp [Dk.crash, Dk.keep, keepK, c3]
        intro e; exact absurd c3 (by simpa using e)
      · left; simp [Dk.crash, Dk.keep, keepK, c3]
        intro e; exact absurd (by simpa using e) c3
    · have hfl : ∃ f2, (⟨K, [(full p, (G % 2).toNat)], f1, false⟩ : Dk).flush = (⟨K.set (G % 2).toNat (full p), [], f2, false⟩, 0) := by
        by_cases c1 : 0 < f1
        · exact ⟨f1 - 1, by simp [Dk.flush, Dk.burn, Dk.keep, keepK, c2, c1]⟩
        · exact ⟨f1, by simp [Dk.flush, Dk.burn, Dk.keep, keepK, c2, c1]⟩
      obtain ⟨f2, hfl⟩ := hfl
      rw [hfl] at e3
      rw [e3 rfl rfl]
      exact .inl ⟨rfl, by simp [Dk.crash, Dk.keep, keepK]⟩
theorem al_arm {d : Dk} {f : Int} (h : Al d f) (n : Int) : Al (d.arm n).1 (max (-1) n) := by
  obtain ⟨K, P, f', dd⟩ := d
  obtain ⟨h1, h2, h3, h4⟩ := h
  simp only at h1 h2 h3 h4
  subst h4
  exact ⟨h1, h2, rfl, rfl⟩
theorem arm_K {d : Dk} {f : Int} (h : Al d f) (n : Int) : (d.arm n).1.K = d.K := by
  obtain ⟨K, P, f', dd⟩ := d
  obtain ⟨h1, h2, h3, h4⟩ := h
  simp only at h4
  subst h4
  rfl
/-- The loop's state: what is found. -/
def Fd (d : Dk) (had : Bool) (was : Sp) (m : Int) : Prop := if had = true then (findR d).2.2 = 0 ∧ (findR d).1 = was ∧ was.gen ≤ m else (findR d).2.2 = 4
theorem either_step {d : Dk} {f : Int} {had : Bool} {was : Sp} {m : Int} (h : Al d f) (hf : -1 ≤ f) (hst : Fd d had was m) (hm0 : 0 ≤ m) (hm : m < 1000) (s : Sp) (hs : SpOk s) (l : List Int) (want : Sp) (hw : want = s.at_ (if had = true then was.gen + 1 else 0)) :
    Al ((saveR d s).1.crash l) (-1) ∧
    (((saveR d s).2 = (want, 0) ∧ (findR ((saveR d s).1.crash l)).2.2 = 0 ∧ (findR ((saveR d s).1.crash l)).1 = want ∧ want.gen ≤ m + 1) ∨
     ((saveR d s).2 = (Sp.none, 20) ∧ (((findR ((saveR d s).1.crash l)).2.2 = 0 ∧ (findR ((saveR d s).1.crash l)).1 = want ∧ want.gen ≤ m + 1) ∨
       ((findR ((saveR d s).1.crash l)).2.2 = (findR d).2.2 ∧ (findR ((saveR d s).1.crash l)).1 = (findR d).1)))) := by
  have hfa := find_al h
  -- the number that the next has
  have hG : nextG d = (if had = true then was.gen + 1 else 0) := by
    unfold nextG
    unfold Fd at hst
    split
    · rename_i e
      cases had with
      | true => rw [if_pos rfl, hst.2.1]
      | false => rw [if_neg (by decide)] at hst; rw [hst] at e; cases e
    · rename_i e
      cases had with
      | true => exact absurd hst.1 e
      | false => rw [if_neg (by decide)]
  have hne : ¬ ((findR d).2.2 ≠ 0 ∧ (findR d).2.2 ≠ 4) := by
    unfold Fd at hst
    cases had with
    | true => exact fun e => e.1 hst.1
    | false => rw [if_neg (by decide)] at hst; exact fun e => e.2 hst
  have hwas : had = true → 0 ≤ was.gen ∧ was.gen ≤ m := fun e => by
    unfold Fd at hst
    rw [if_pos e] at hst
    have := find_ok hst.1
    rw [hst.2.1] at this
    exact ⟨this.1.1, hst.2.2⟩
  rw [← hG] at hw
  have hg0 : 0 ≤ nextG d := by rw [hG]; split; have := hwas (by assumption); omega; omega
  have hgm : nextG d ≤ 1152921504606846976 ∧ (had = true → nextG d ≤ m + 1) := by
    rw [hG]
    split
    · have := hwas (by assumption)
      exact ⟨by omega, fun _ => by omega⟩
    · rename_i e
      exact ⟨by omega, fun e2 => absurd e2 e⟩
  have hok : SpOk (s.at_ (nextG d)) := ⟨⟨hg0, hgm.1⟩, hs.2⟩
  have hsc := save_crash h hf s (nextG d) hne rfl hg0 hgm.1 hok l
  simp only at hsc
  rw [← hw] at hsc hok
  -- the super that was found has a lesser number
  have hlt : ∀ b, (b = d.K.getD 0 [] ∨ b = d.K.getD 1 []) → (readR b).2 = 0 → (readR b).1.gen < want.gen := by
    intro b hb hr
    have hwg : want.gen = nextG d := by rw [hw]; rfl
    rw [hwg]
    unfold nextG
    by_cases e : (findR d).2.2 = 0
    · rw [if_pos e]
      rw [hfa] at e ⊢
      have hbst := fnd_best e
      rcases hb with rfl | rfl
      · have := hbst.1 hr; omega
      · have := hbst.2 hr; omega
    · rw [hfa] at e
      have hn := fnd_none e
      rcases hb with rfl | rfl
      · exact absurd hr hn.1
      · exact absurd hr hn.2
  have hwm : want.gen ≤ m + 1 := by
    have hwg : want.gen = nextG d := by rw [hw]; rfl
    rw [hwg, hG]
    split
    · have := hwas (by assumption); omega
    · omega
  have a0 : Al (⟨d.K, [], -1, false⟩ : Dk) (-1) := ⟨h.len, rfl, rfl, rfl⟩
  have a1 : Al (⟨d.K.set (nextG d % 2).toNat (full (putS want)), [], -1, false⟩ : Dk) (-1) := ⟨by rw [List.length_set]; exact h.len, rfl, rfl, rfl⟩
  have f0 : findR (⟨d.K, [], -1, false⟩ : Dk) = findR d := by rw [find_al a0, hfa]
  have f1 : (findR (⟨d.K.set (nextG d % 2).toNat (full (putS want)), [], -1, false⟩ : Dk)).2.2 = 0 ∧ (findR (⟨d.K.set (nextG d % 2).toNat (full (putS want)), [], -1, false⟩ : Dk)).1 = want := by
    rw [find_al a1]
    have hl := h.len
    have h01 : (nextG d % 2).toNat = 0 ∨ (nextG d % 2).toNat = 1 := by omega
    rcases h01 with e | e
    · have e0 : (d.K.set (nextG d % 2).toNat (full (putS want))).getD 0 [] = full (putS want) := by rw [e, List.getD_eq_getElem?_getD, List.getElem?_set_self (by omega)]; rfl
      have e1 : (d.K.set (nextG d % 2).toNat (full (putS want))).getD 1 [] = d.K.getD 1 [] := by rw [e, List.getD_eq_getElem?_getD, List.getElem?_set_ne (by decide), ← List.getD_eq_getElem?_getD]
      simp only [e0, e1]
      rw [fnd_0 hok (hlt _ (.inr rfl))]
      exact ⟨rfl, rfl⟩
    · have e0 : (d.K.set (nextG d % 2).toNat (full (putS want))).getD 0 [] = d.K.getD 0 [] := by rw [e, List.getD_eq_getElem?_getD, List.getElem?_set_ne (by decide), ← List.getD_eq_getElem?_getD]
      have e1 : (d.K.set (nextG d % 2).toNat (full (putS want))).getD 1 [] = full (putS want) := by rw [e, List.getD_eq_getElem?_getD, List.getElem?_set_self (by omega)]; rfl
      simp only [e0, e1]
      rw [fnd_1 hok (hlt _ (.inl rfl))]
      exact ⟨rfl, rfl⟩
  rcases hsc with ⟨e1, e2⟩ | ⟨e1, e2 | e2⟩
  · rw [e2]
    exact ⟨a1, .inl ⟨e1, f1.1, f1.2, hwm⟩⟩
  · rw [e2]
    exact ⟨a0, .inr ⟨e1, .inr ⟨by rw [f0], by rw [f0]⟩⟩⟩
  · rw [e2]
    exact ⟨a1, .inr ⟨e1, .inl ⟨f1.1, f1.2, hwm⟩⟩⟩
theorem find_arm {d : Dk} {f : Int} (h : Al d f) (n : Int) : findR (d.arm n).1 = findR d := by
  rw [find_al (al_arm h n), find_al h, arm_K h n]
theorem fd_arm {d : Dk} {f : Int} (h : Al d f) {had : Bool} {was : Sp} {m : Int} (n : Int) (hs : Fd d had was m) : Fd (d.arm n).1 had was m := by
  unfold Fd at *
  rw [find_arm h n]
  exact hs
theorem fd_mono {d : Dk} {had : Bool} {was : Sp} {m n : Int} (h : Fd d had was m) (hn : m ≤ n) : Fd d had was n := by
  unfold Fd at *
  cases had with
  | true => rw [if_pos rfl] at *; exact ⟨h.1, h.2.1, by omega⟩
  | false => rw [if_neg (by decide)] at *; exact h
/-- What is found behind a round is the next round's. -/
theorem fd_found {d : Dk} {s : Sp} {m : Int} (h : (findR d).2.2 = 0) (h2 : (findR d).1 = s) (hm : s.gen ≤ m) : Fd d true s m := by
  unfold Fd
  rw [if_pos rfl]
  exact ⟨h, h2, hm⟩
theorem fd_none {d : Dk} {s : Sp} {m : Int} (h : (findR d).2.2 = 4) : Fd d false s m := by
  unfold Fd
  rw [if_neg (by decide)]
  exact h
end Go.Proofs.Ytgdkgnolkepgdaa
