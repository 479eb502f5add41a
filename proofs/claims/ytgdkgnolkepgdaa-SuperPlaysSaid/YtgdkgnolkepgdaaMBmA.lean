/- The reference's Write, joined; its Flush; the plain law of Flush and Crash. -/
import Derived.Test.YtgdkgnolkepgdaaMBlY
import Derived.Test.YtgdkgnolkepgdaaMBlK
namespace Go.Amb
open Go.RowKit
set_option linter.unusedVariables false
/-- The picked of the first k writes. -/
def pk (P : List (List UInt8 × Nat)) (pick : Nat → Bool) : Nat → List (List UInt8 × Nat)
  | 0 => []
  | k + 1 => match P[k]? with
    | some p => if pick k then pk P pick k ++ [p] else pk P pick k
    | none => pk P pick k
theorem pk_mem {P : List (List UInt8 × Nat)} {pick : Nat → Bool} : ∀ {k : Nat}, ∀ p ∈ pk P pick k, p ∈ P
  | 0, p, h => by cases h
  | k + 1, p, h => by
    rw [pk] at h
    split at h
    · rename_i q hq
      split at h
      · rcases List.mem_append.1 h with h | h
        · exact pk_mem p h
        · rw [List.mem_singleton] at h; subst h; exact List.mem_of_getElem? hq
      · exact pk_mem p h
    · exact pk_mem p h
theorem pk_all (P : List (List UInt8 × Nat)) : ∀ k, pk P (fun _ => true) k = P.take k
  | 0 => rfl
  | k + 1 => by
    rw [pk, pk_all P k, List.take_add_one]
    cases P[k]? <;> simp
theorem pk_len (P : List (List UInt8 × Nat)) (pick : Nat → Bool) : ∀ k, (pk P pick k).length ≤ k
  | 0 => Nat.zero_le _
  | k + 1 => by
    have := pk_len P pick k
    rw [pk]
    split
    · split
      · rw [List.length_append, List.length_singleton]; omega
      · omega
    · omega
theorem keepL_append (K : List (List UInt8)) (l : List (List UInt8 × Nat)) (p : List UInt8 × Nat) : keepL K (l ++ [p]) = (keepL K l).set p.2 p.1 := by
  unfold keepL; rw [List.foldl_append]; rfl
theorem keepK_pk (K : List (List UInt8)) (P : List (List UInt8 × Nat)) (pick : Nat → Bool) : ∀ k, keepK K P pick k = keepL K (pk P pick k)
  | 0 => rfl
  | k + 1 => by
    have ih := keepK_pk K P pick k
    rw [keepK, pk]
    cases hp : P[k]? with
    | none => exact ih
    | some p =>
      by_cases h : pick k = true
      · simp only [if_pos h]; rw [keepL_append, ih]
      · simp only [if_neg h]; exact ih
theorem full_128 {s : List UInt8} (h : s.length = 128) : full s = s := by unfold full; rw [h]; simp
theorem keepL_full (l : List (List UInt8 × Nat)) : ∀ (K : List (List UInt8)), (∀ p ∈ l, p.1.length = 128) → keepL (K.map full) l = (keepL K l).map full := by
  unfold keepL
  induction l with
  | nil => intro K _; rfl
  | cons p l ih =>
    intro K h
    rw [List.foldl_cons, List.foldl_cons, ← ih _ fun q hq => h q (List.mem_cons_of_mem _ hq), List.map_set, full_128 (h p List.mem_cons_self)]
theorem keepL_le (l : List (List UInt8 × Nat)) : ∀ (K : List (List UInt8)), (∀ p ∈ l, p.1.length = 128) → (∀ s ∈ K, s.length ≤ 128) → ∀ s ∈ keepL K l, s.length ≤ 128 := by
  unfold keepL
  induction l with
  | nil => intro K _ h; exact h
  | cons p l ih =>
    intro K h hK
    rw [List.foldl_cons]
    refine ih _ (fun q hq => h q (List.mem_cons_of_mem _ hq)) fun s hs => ?_
    rcases List.mem_or_eq_of_mem_set hs with h' | rfl
    · exact hK s h'
    · have := h p List.mem_cons_self; omega
/-- The reference's kept. -/
def Dk.keepR (r : Dk) (pick : Nat → Bool) : Dk := { r with K := keepL r.K (pk r.P pick r.P.length), P := [] }
def Dk.flushR (r : Dk) : Dk × Int := if r.dd then (r, 20) else if r.burn.2 ≠ 0 then r.burn else (r.burn.1.keepR fun _ => true, 0)
def Dk.crashR (r : Dk) (l : List Int) : Dk := { r.keepR fun k => decide ((k : Int) ∈ l) with f := -1, dd := false }
end Go.Amb
namespace Go.Proofs.Ytgdkgnolkepgdaa
open Go.RowKit Go.Amb Go.Shelf
set_option linter.unusedVariables false
set_option linter.unusedSimpArgs false
set_option maxRecDepth 100000
theorem Same.keep {d r : Dk} (h : Same d r) (hok : d.Ok) (pick : Nat → Bool) : Same (d.keep pick) (r.keepR pick) := by
  have hl : ∀ p ∈ pk r.P pick r.P.length, p.1.length = 128 := fun p hp => (hok.p p (by rw [h.p]; exact pk_mem p hp)).1
  refine ⟨?_, keepL_le _ _ hl h.l, rfl, h.f, h.dd⟩
  show keepK d.K d.P pick d.P.length = (keepL r.K (pk r.P pick r.P.length)).map full
  rw [keepK_pk, h.k, h.p, keepL_full _ _ hl]
theorem Same.flush {d r : Dk} (h : Same d r) (hok : d.Ok) : Same d.flush.1 r.flushR.1 ∧ d.flush.2 = r.flushR.2 := by
  have hb := h.burn
  unfold Dk.flush Dk.flushR
  rw [h.dd, hb.2]
  split
  · exact ⟨h, rfl⟩
  · split
    · exact hb
    · exact ⟨hb.1.keep hok.burn _, rfl⟩
theorem Same.crash {d r : Dk} (h : Same d r) (hok : d.Ok) (l : List Int) : Same (d.crash l) (r.crashR l) := by
  have := h.keep hok fun k => decide ((k : Int) ∈ l)
  exact ⟨this.k, this.l, this.p, rfl, rfl⟩
theorem Same.arm {d r : Dk} (h : Same d r) (n : Int) : Same (d.arm n).1 (r.arm n).1 ∧ (d.arm n).2 = (r.arm n).2 := by
  unfold Dk.arm
  rw [h.dd]
  split
  · exact ⟨h, rfl⟩
  · exact ⟨⟨h.k, h.l, h.p, rfl, rfl⟩, rfl⟩
/-- The answer of a call that makes a disk of the reference anew. -/
def Anew (kv pv : Value) (w : World) (r' : Dk) (e : Int) (en : Ending) (w' : World) : Prop :=
  ∃ kv' pv', en = .returned (.tuple #[rfv r' kv' pv', .int .i64 e]) ∧ RAt w' r' kv' pv' ∧ Upd Non w w' ∧ Nw w w' kv kv' ∧ Nw w w' pv pv'
theorem refWrite (r : Dk) (kv pv : Value) (w : World) (h : RAt w r kv pv) (hP : r.P.length ≤ 1000000) (hK : r.K.length ≤ 1000000) (hf1 : -1 ≤ r.f) (hf2 : r.f < 9223372036854775808) (i : Int) (s : List UInt8) (hs : s.length ≤ 1000000) :
    Calls Try.prog 23 #[rfv r kv pv, .int .i64 i, .string ⟨s.toArray⟩] w (Anew kv pv w (r.write i s).1 (r.write i s).2) := by
  by_cases hno : r.within i ≠ 0 ∨ 128 < s.length
  · refine (refWriteNo r kv pv w h i s hs hno).mono ?_
    rintro en w' ⟨rfl, hu⟩
    have hr : (r.write i s).1 = r := by
      unfold Dk.write
      by_cases h1 : r.within i ≠ 0
      · rw [if_pos h1]
      · rw [if_neg h1, if_pos (hno.resolve_left h1)]
    exact ⟨kv, pv, rfl, by rw [hr]; exact h.non hu, hu, Nw.refl _ _ _, Nw.refl _ _ _⟩
  · have h1 : r.within i = 0 := by
      by_cases h1 : r.within i = 0
      · exact h1
      · exact absurd (.inl h1) hno
    have h2 := (Dk.within_0 h1).2.1
    obtain ⟨j, rfl⟩ := Int.eq_ofNat_of_zero_le h2
    refine (refWriteYes r kv pv w h hP hK hf1 hf2 j h1 s (by by_cases h3 : 128 < s.length; exact absurd (.inr h3) hno; omega)).mono ?_
    rintro en w' ⟨pv', rfl, hR, hu, hn⟩
    exact ⟨kv, pv', rfl, hR, hu, Nw.refl _ _ _, hn⟩
set_option maxHeartbeats 4000000 in
theorem refFlush (r : Dk) (kv pv : Value) (w : World) (h : RAt w r kv pv) (hi : ∀ p ∈ r.P, p.2 < r.K.length) (hK1 : 1 ≤ r.K.length) (hP : r.P.length ≤ 1000000) (hK : r.K.length ≤ 1000000) (hf1 : -1 ≤ r.f) (hf2 : r.f < 9223372036854775808) :
    Calls Try.prog 54 #[rfv r kv pv] w (Anew kv pv w r.flushR.1 r.flushR.2) := by
  obtain ⟨_, ka, kc, rfl, -⟩ := id h.k
  obtain ⟨_, pa, pcp, rfl, -⟩ := id h.p
  by_cases hd : r.dd = true
  · have hr : r.flushR = (r, 20) := by unfold Dk.flushR; rw [if_pos hd]
    rw [hr]
    have h0 := Lib.hid (fun w' (hu : Upd Non w w') => h.non hu)
    unfold rfv
    rw [hd]
    obtain ⟨m, hm⟩ : ∃ m, r.K.length = m := ⟨_, rfl⟩
    obtain ⟨n, hn⟩ : ∃ n, r.P.length = n := ⟨_, rfl⟩
    obtain ⟨f, hf⟩ : ∃ f, r.f = f := ⟨_, rfl⟩
    rw [hm, hn] at h0
    simp only [hm, hn, hf]
    clear hi hK1 hP hK hf1 hf2 h hr
    replace hm := Lib.hid hm
    replace hn := Lib.hid hn
    replace hf := Lib.hid hf
    replace hd := Lib.hid hd
    go_enter Try.func54, Try.ntmps54
    go_wp2_with fail
    refine bodyPost_ret (v := .tuple #[.agg #[.int .i64 (m : Int), .slice ka m kc, .slice pa n pcp, .int .i64 f, .bool true], .int .i64 20]) (by simp [results, Try.results54, go_sem]; try rfl) rfl ⟨.slice ka m kc, .slice pa n pcp, by simp only [rfv, hm.out, hf.out, hd.out], h0.out _ (by (repeat (first | (with_reducible exact Upd.refl _ _) | (with_reducible assumption) | (with_reducible refine Upd.then_drew ?_) | (with_reducible refine Upd.then_drewN ?_ _) | (with_reducible refine Upd.then_alloc ?_ _) | (with_reducible refine Upd.then_setCell ?_ (fun h => absurd h (by simp <;> omega)) _) | (with_reducible refine Upd.trans ?_ (Upd.non (by assumption)) (fun _ _ h => h))))), by (repeat (first | (with_reducible exact Upd.refl _ _) | (with_reducible assumption) | (with_reducible refine Upd.then_drew ?_) | (with_reducible refine Upd.then_drewN ?_ _) | (with_reducible refine Upd.then_alloc ?_ _) | (with_reducible refine Upd.then_setCell ?_ (fun h => absurd h (by simp <;> omega)) _) | (with_reducible refine Upd.trans ?_ (Upd.non (by assumption)) (fun _ _ h => h)))), Nw.refl _ _ _, Nw.refl _ _ _⟩
  · have hd : r.dd = false := by simpa using hd
    have hb := Lib.hid (fun w => refBurn r (.slice ka r.K.length kc) (.slice pa r.P.length pcp) w ⟨_, _, _, rfl⟩ ⟨_, _, _, rfl⟩ hf1 hf2)
    have hR1 : r.burn.1.K = r.K := Dk.burn_K r
    have hR2 : r.burn.1.P = r.P := Dk.burn_P r
    have hRAt : Hid (∀ w', Upd Non w w' → RAt w' r.burn.1 (.slice ka r.K.length kc) (.slice pa r.P.length pcp)) := Lib.hid (fun w' hu => h.keepP hu hR1 hR2)
    simp only [burn_eq] at hb
    simp only [rfv] at hb
    obtain ⟨m, hm⟩ : ∃ m, r.K.length = m := ⟨_, rfl⟩
    obtain ⟨n, hn⟩ : ∃ n, r.P.length = n := ⟨_, rfl⟩
    obtain ⟨f, hf⟩ : ∃ f, r.f = f := ⟨_, rfl⟩
    obtain ⟨bf, hbf⟩ : ∃ bf, r.burn.1.f = bf := ⟨_, rfl⟩
    obtain ⟨bd, hbd⟩ : ∃ bd, r.burn.1.dd = bd := ⟨_, rfl⟩
    have hs5 := Lib.hid size_disk5
    by_cases hb2 : r.burn.2 = 0
    · have hr : r.flushR = (r.burn.1.keepR fun _ => true, 0) := by unfold Dk.flushR; rw [hd, if_neg (by simp), if_neg (by rw [hb2]; simp)]
      rw [hr]
      obtain ⟨R, hR⟩ : ∃ R, r.burn.1 = R := ⟨_, rfl⟩
      rw [hR] at hR1 hR2 hRAt hbf hbd ⊢
      have hkR : R.keepR (fun _ => true) = { R with K := keepL R.K R.P, P := [] } := by unfold Dk.keepR; rw [pk_all, List.take_length]
      rw [hkR]
      obtain ⟨R', hR'⟩ : ∃ R' : Dk, ({ R with K := keepL R.K R.P, P := [] } : Dk) = R' := ⟨_, rfl⟩
      rw [hR']
      have h1' : R'.K.length = m := by rw [← hR', keepL_length, hR1, hm]
      have h2' : R'.f = bf := by rw [← hR']; exact hbf
      have h3' : R'.dd = bd := by rw [← hR']; exact hbd
      have hk : Hid (∀ w', Upd Non w w' → Calls Try.prog 52 #[.agg #[.int .i64 (m : Int), .slice ka m kc, .slice pa n pcp, .int .i64 bf, .bool bd], .slice pa n pcp] w' (fun en w9 => ∃ a9 c9, en = .returned (.agg #[.int .i64 (m : Int), .slice a9 m c9, .slice none 0 0, .int .i64 bf, .bool bd]) ∧ RAt w9 R' (.slice a9 m c9) (.slice none 0 0) ∧ Upd Non w' w9 ∧ ∀ k, At (.slice a9 m c9) k → w'.heap.size ≤ k ∧ k < w9.heap.size)) := Lib.hid (fun w' hu => by
        have hc := refKept R (.slice ka r.K.length kc) (.slice pa r.P.length pcp) (.slice pa r.P.length pcp) R.P w' (hRAt.out w' hu) ⟨_, _, _, rfl⟩ (by have := (hRAt.out w' hu).p; rw [hR2] at this ⊢; exact this) (by rw [hR2, hR1]; exact hi) (by rw [hR1]; exact hK1) (by rw [hR1]; exact hK) (by rw [hR2]; exact hP)
        rw [hR'] at hc
        unfold rfv at hc
        rw [hR1, hm, hn, hbf, hbd, h1', h2', h3'] at hc
        refine hc.mono ?_
        rintro en w9 ⟨kv', rfl, hR9, hu9, hn9⟩
        obtain ⟨_, a9, c9, rfl, -⟩ := id hR9.k
        rw [h1'] at hR9 hn9 ⊢
        exact ⟨a9, c9, rfl, hR9, hu9, hn9⟩)
      unfold rfv
      rw [hR] at hb
      rw [hm, hn, hf, hbf, hbd, hb2] at hb
      rw [hd, hm, hn, hf]
      rw [hd] at hb
      replace h1' := Lib.hid h1'
      replace h2' := Lib.hid h2'
      replace h3' := Lib.hid h3'
      clear hRAt hkR hR' hR1 hR2 hR hb2 hm hn hf hbf hbd hd hi hK1 hK hP hf1 hf2 h hr
      simp only [decide_true] at hb
      go_enter Try.func54, Try.ntmps54
      go_wp2_with fail
      refine (hb.out _).mono ?_
      rintro en w2 ⟨rfl, hu2⟩
      obtain ⟨hx, hy, hz⟩ := upd_two hu2 (fun _ h => h.elim)
      have hU2 : Upd Non w w2 := ((Upd.alloc Non w _).then_alloc _).trans hu2 fun k hk h => h
      simp only []
      clear hu2
      replace hU2 := Lib.hid hU2
      replace hz := Lib.hid hz
      go_wp2_with (refine wpList_store_blk rfl 64 _ _ rfl w.heap.size #[.int .i64 (m : Int), .slice ka m kc, .slice pa n pcp, .int .i64 bf, .bool bd] _ _ rfl rfl hx rfl hs5.out (by simp [Value.oneCell']) ?_)
      intro w3 hx3 hu3
      replace hy := hu3.heap hy (by omega)
      have hU3 : Hid (Upd Non w w3) := Lib.hid (hU2.out.trans hu3 fun k hk h => by omega)
      replace hz : Hid (w.heap.size + 2 ≤ w3.heap.size) := Lib.hid (Nat.le_trans hz.out hu3.size)
      clear hx hU2 hu3
      obtain ⟨c0, f0⟩ := cells_of hx3
      go_wp2_with fail
      refine (hk.out _ hU3.out).mono ?_
      rintro en w4 ⟨a9, c9, rfl, hR4, hu4, hn4⟩
      replace hy := hu4.heap hy fun h => h
      have hU4 : Upd Non w w4 := hU3.out.trans hu4 fun _ _ h => h
      have hzz := hz.out
      have hz4 := hu4.size
      clear hu4 hx3 c0 f0 hU3
      simp only []
      go_wp2_with (refine wpList_store_blk rfl 64 _ _ rfl (w.heap.size + 1) #[.int .i64 (m : Int), .slice a9 m c9, .slice none 0 0, .int .i64 bf, .bool bd] _ _ rfl rfl hy rfl hs5.out (by simp [Value.oneCell']) ?_)
      intro w5 hy5 hu5
      have hU5 : Upd Non w w5 := hU4.trans hu5 fun k hk h => by omega
      have hR5 := hR4.upd hu5 (fun k hk h => by have := (hn4 k hk).1; omega) (fun k hk h => by simp [At, Value.ownBlock] at hk)
      have hz5 := hu5.size
      obtain ⟨c1, f1⟩ := cells_of hy5
      clear hy5 hu5 hR4 hU4
      go_wp2_with fail
      refine bodyPost_ret (v := .tuple #[.agg #[.int .i64 (m : Int), .slice a9 m c9, .slice none 0 0, .int .i64 bf, .bool bd], .int .i64 0]) (by simp [results, Try.results54, go_sem, c1]; try rfl) rfl ⟨.slice a9 m c9, .slice none 0 0, by simp only [rfv, h1'.out, h2'.out, h3'.out], hR5, hU5, fun k hk => .inr (by have := hn4 k hk; omega), fun k hk => (by simp [At, Value.ownBlock] at hk)⟩
    · have hr : r.flushR = r.burn := by unfold Dk.flushR; rw [hd, if_neg (by simp), if_pos hb2]
      have he20 : r.burn.2 = 20 := by
        revert hb2
        unfold Dk.burn
        split
        · intro _; rfl
        · split <;> (intro h; exact absurd rfl h)
      rw [hr, he20]
      obtain ⟨R, hR⟩ : ∃ R, r.burn.1 = R := ⟨_, rfl⟩
      rw [hR] at hR1 hR2 hRAt hbf hbd ⊢
      unfold rfv
      have hbd2 : decide (r.burn.2 = 0) = false := by simp [hb2]
      have h1' : R.K.length = m := by rw [hR1]; exact hm
      have h2' := Lib.hid hbf
      have h3' := Lib.hid hbd
      rw [hR] at hb
      rw [hm, hn, hf, hbf, hbd, hbd2] at hb
      rw [hd, hm, hn, hf]
      rw [hd] at hb
      rw [hm, hn] at hRAt
      replace h1' := Lib.hid h1'
      clear hR1 hR2 hR hb2 hm hn hf hbf hbd hd hi hK1 hK hP hf1 hf2 h hr he20 hbd2
      go_enter Try.func54, Try.ntmps54
      go_wp2_with fail
      refine (hb.out _).mono ?_
      rintro en w2 ⟨rfl, hu2⟩
      obtain ⟨hx, hy, hz⟩ := upd_two hu2 (fun _ h => h.elim)
      have hU2 : Upd Non w w2 := ((Upd.alloc Non w _).then_alloc _).trans hu2 fun k hk h => h
      simp only []
      clear hu2
      replace hz := Lib.hid hz
      replace hU2 := Lib.hid hU2
      go_wp2_with (refine wpList_store_blk rfl 64 _ _ rfl w.heap.size #[.int .i64 (m : Int), .slice ka m kc, .slice pa n pcp, .int .i64 bf, .bool bd] _ _ rfl rfl hx rfl hs5.out (by simp [Value.oneCell']) ?_)
      intro w3 hx3 hu3
      replace hy := hu3.heap hy (by omega)
      have hU3 : Upd Non w w3 := hU2.out.trans hu3 fun k hk h => by omega
      clear hx hU2 hu3
      obtain ⟨c0, f0⟩ := cells_of hx3
      go_wp2_with (refine wpList_store_blk rfl 64 _ _ rfl (w.heap.size + 1) #[.int .i64 (m : Int), .slice ka m kc, .slice pa n pcp, .int .i64 bf, .bool bd] _ _ rfl rfl hy rfl hs5.out (by simp [Value.oneCell']) ?_)
      intro w4 hy4 hu4
      have hU4 : Upd Non w w4 := hU3.trans hu4 fun k hk h => by omega
      obtain ⟨c1, f1⟩ := cells_of hy4
      clear hy4 hu4 hx3 c0 f0 hU3 hy
      go_wp2_with fail
      refine bodyPost_ret (v := .tuple #[.agg #[.int .i64 (m : Int), .slice ka m kc, .slice pa n pcp, .int .i64 bf, .bool bd], .int .i64 20]) (by simp [results, Try.results54, go_sem, c1]; try rfl) rfl ⟨.slice ka m kc, .slice pa n pcp, by simp only [rfv, h1'.out, h2'.out, h3'.out], hRAt.out _ hU4, hU4, Nw.refl _ _ _, Nw.refl _ _ _⟩
end Go.Proofs.Ytgdkgnolkepgdaa

namespace Go.Amb
open Go.RowKit
set_option linter.unusedVariables false
theorem mem_take_succ {l : List Int} {i : Nat} (h : i < l.length) (k : Int) : k ∈ l.take (i + 1) ↔ k ∈ l.take i ∨ l[i] = k := by
  rw [List.take_add_one, List.getElem?_eq_getElem h, Option.toList_some, List.mem_append, List.mem_singleton]
  constructor
  · rintro (h | h); exact .inl h; exact .inr h.symm
  · rintro (h | h); exact .inl h; exact .inr h.symm
theorem pk_yes {P : List (List UInt8 × Nat)} {pick : Nat → Bool} {k : Nat} (h : k < P.length) (hp : pick k = true) : pk P pick (k + 1) = pk P pick k ++ [P[k]] := by
  rw [pk, List.getElem?_eq_getElem h]; simp only [hp, if_true]
theorem pk_no {P : List (List UInt8 × Nat)} {pick : Nat → Bool} {k : Nat} (h : k < P.length) (hp : pick k = false) : pk P pick (k + 1) = pk P pick k := by
  rw [pk, List.getElem?_eq_getElem h]; simp only [hp, Bool.false_eq_true, if_false]
end Go.Amb
namespace Go.Proofs.Ytgdkgnolkepgdaa
open Go.RowKit Go.Amb Go.Shelf
set_option linter.unusedVariables false
set_option linter.unusedSimpArgs false
set_option maxRecDepth 100000
set_option maxHeartbeats 4000000 in
theorem refCrash (r : Dk) (kv pv lv : Value) (l : List Int) (w : World) (h : RAt w r kv pv) (hL : Ints w lv l) (hi : ∀ p ∈ r.P, p.2 < r.K.length) (hK1 : 1 ≤ r.K.length) (hP : r.P.length ≤ 1000000) (hK : r.K.length ≤ 1000000) :
    Calls Try.prog 25 #[rfv r kv pv, lv] w (fun en w' => ∃ kv', en = .returned (rfv (r.crashR l) kv' (.slice none 0 0)) ∧ RAt w' (r.crashR l) kv' (.slice none 0 0) ∧ Upd Non w w' ∧ ∀ k, At kv' k → w.heap.size ≤ k ∧ k < w'.heap.size) := by
  obtain ⟨_, ka, kc, rfl, -⟩ := id h.k
  obtain ⟨_, pa, pcp, rfl, -⟩ := id h.p
  obtain ⟨_, la, lc, rfl, hl1, hl2, hl3⟩ := hL
  have hl9 : l.length ≤ 9223372036854775807 := by unfold maxLen at hl2; omega
  clear hl1 hl2
  obtain ⟨m, hm⟩ : ∃ m, r.K.length = m := ⟨_, rfl⟩
  obtain ⟨n, hn⟩ : ∃ n, r.P.length = n := ⟨_, rfl⟩
  obtain ⟨f, hf⟩ : ∃ f, r.f = f := ⟨_, rfl⟩
  obtain ⟨dd, hdd⟩ : ∃ dd, r.dd = dd := ⟨_, rfl⟩
  obtain ⟨q, hq⟩ : ∃ q, l.length = q := ⟨_, rfl⟩
  obtain ⟨pick, hpick⟩ : ∃ pick : Nat → Bool, (fun k : Nat => decide ((k : Int) ∈ l)) = pick := ⟨_, rfl⟩
  obtain ⟨R', hR'⟩ : ∃ R' : Dk, r.crashR l = R' := ⟨_, rfl⟩
  have hRe : R' = { K := keepL r.K (pk r.P pick n), P := [], f := -1, dd := false } := by rw [← hR', ← hpick, ← hn]; rfl
  have h1' : R'.K.length = m := by rw [hRe]; show (keepL r.K _).length = m; rw [keepL_length, hm]
  have h2' : R'.f = -1 := by rw [hRe]
  have h3' : R'.dd = false := by rw [hRe]
  rw [hR']
  have hk : Hid (∀ (xv : Value) (w' : World), Upd Non w w' → Has w' 2 xv (pk r.P pick n).length ((pk r.P pick n).map wc).flatten → Calls Try.prog 52 #[.agg #[.int .i64 (m : Int), .slice ka m kc, .slice pa n pcp, .int .i64 (-1), .bool false], xv] w' (fun en w9 => ∃ a9 c9, en = .returned (.agg #[.int .i64 (m : Int), .slice a9 m c9, .slice none 0 0, .int .i64 (-1), .bool false]) ∧ RAt w9 R' (.slice a9 m c9) (.slice none 0 0) ∧ Upd Non w' w9 ∧ ∀ k, At (.slice a9 m c9) k → w'.heap.size ≤ k ∧ k < w9.heap.size)) := Lib.hid (fun xv w' hu hx => by
    have hR1 : RAt w' { r with f := -1, dd := false } (.slice ka r.K.length kc) (.slice pa r.P.length pcp) := h.keepP hu rfl rfl
    have hc := refKept { r with f := -1, dd := false } (.slice ka r.K.length kc) (.slice pa r.P.length pcp) xv (pk r.P pick n) w' hR1 ⟨_, _, _, rfl⟩ hx (fun p hp => hi p (pk_mem p hp)) hK1 hK (Nat.le_trans (pk_len _ _ _) (by rw [← hn]; exact hP))
    have e9 : ({ K := keepL r.K (pk r.P pick n), P := [], f := -1, dd := false } : Dk) = R' := hRe.symm
    simp only [e9] at hc
    unfold rfv at hc
    rw [h1', h2', h3'] at hc
    simp only [hm, hn] at hc
    refine hc.mono ?_
    rintro en w9 ⟨kv', rfl, hR9, hu9, hn9⟩
    obtain ⟨_, a9, c9, rfl, -⟩ := id hR9.k
    rw [h1'] at hR9 hn9 ⊢
    exact ⟨a9, c9, rfl, hR9, hu9, hn9⟩)
  have hpw : Hid (∀ w', Upd Non w w' → Has w' 2 (.slice pa n pcp) r.P.length (r.P.map wc).flatten) := Lib.hid (fun w' hu => by have := (h.non hu).p; rw [hn] at this ⊢; exact this)
  have hi2 := Lib.hid info_rwrite
  have hs5 := Lib.hid size_disk5
  have hn3 : n ≤ 1000000 := by omega
  unfold rfv
  rw [hm, hn, hf, hdd]
  rw [hq] at hl9 hl3 ⊢
  replace hn := Lib.hid hn
  replace hq := Lib.hid hq
  replace h1' := Lib.hid h1'
  replace h2' := Lib.hid h2'
  replace h3' := Lib.hid h3'
  replace hl3 := Lib.hid hl3
  replace hpick := Lib.hid hpick
  clear hR' hRe hi hK1 hP hK h hm hf hdd
  go_enter Try.func25, Try.ntmps25
  go_wp2_with fail
  obtain ⟨w2, hw2⟩ : ∃ w2 : World, w2 = ((w.alloc (.cells #[.int .i64 (m : Int), .slice ka m kc, .slice pa n pcp, .int .i64 f, .bool dd] 64)).alloc (.cells #[.int .i64 0, .slice none 0 0, .slice none 0 0, .int .i64 0, .bool false] 64)) := ⟨_, rfl⟩
  rw [← hw2]
  have hu2 : Upd Non ((w.alloc (.cells #[.int .i64 (m : Int), .slice ka m kc, .slice pa n pcp, .int .i64 f, .bool dd] 64)).alloc (.cells #[.int .i64 0, .slice none 0 0, .slice none 0 0, .int .i64 0, .bool false] 64)) w2 := by rw [hw2]; exact Upd.refl _ _
  obtain ⟨hx, hy, hz⟩ := upd_two hu2 (fun _ h => h.elim)
  have hU2 : Upd Non w w2 := ((Upd.alloc Non w _).then_alloc _).trans hu2 fun k hk h => h
  clear hu2 hw2
  go_loopw [5, 6] (fun lv kv wr => ∃ k : Nat, kv = .int .i64 (k : Int) ∧ k ≤ n ∧ wr.heap[w.heap.size]? = some (.cells #[.int .i64 (m : Int), .slice ka m kc, .slice pa n pcp, .int .i64 f, .bool dd] 64 (0, 0)) ∧ wr.heap[w.heap.size + 1]? = some (.cells #[.int .i64 0, .slice none 0 0, .slice none 0 0, .int .i64 0, .bool false] 64 (0, 0)) ∧ wr.ownsRow (w.heap.size + 1 + 1) 98 2 lv (pk r.P pick k).length ((pk r.P pick k).map wc).flatten ∧ Upd Non w wr) (fun _ kv _ => n - (intOf kv).toNat)
  case atStart => exact ⟨0, rfl, Nat.zero_le _, hx, hy, World.ownsRow_nil _ _ _ _, hU2⟩
  case round =>
    obtain ⟨w5, rfl⟩ : ∃ w5, w5 = wr := ⟨_, rfl⟩
    obtain ⟨k, rfl, hkn, hxr, hyr, hor, hur⟩ := hrel
    clear hx hy hz hU2
    obtain ⟨c0, f0⟩ := cells_of hxr
    by_cases hkm : k < n
    · have hkm' : (k : Int) < (n : Int) := by omega
      have hk0 : (0 : Int) ≤ (k : Int) := by omega
      have hkl : k < r.P.length := by rw [hn.out]; exact hkm
      obtain ⟨gp, op, cp, hlv, p0, p1⟩ := fl_at (hpw.out _ hur) hkl
      injection hlv with e1 e2 e3
      clear e2 e3
      subst e1
      have hy9 := pk_yes (pick := pick) hkl
      have hn9 := pk_no (pick := pick) hkl
      obtain ⟨pi, hpi⟩ : ∃ pi, r.P[k].2 = pi := ⟨_, rfl⟩
      obtain ⟨ps, hps⟩ : ∃ ps, r.P[k].1 = ps := ⟨_, rfl⟩
      have hpp : r.P[k] = (ps, pi) := by rw [← hpi, ← hps]
      rw [hpp] at hy9
      rw [hpi] at p0
      rw [hps] at p1
      clear hpi hps hpp
      have hpk : pick k = decide ((k : Int) ∈ l) := by rw [← hpick.out]
      replace hy9 := Lib.hid hy9
      replace hn9 := Lib.hid hn9
      replace hpk := Lib.hid hpk
      replace hkl := Lib.hid hkl
      replace hxr := Lib.hid hxr
      replace hyr := Lib.hid hyr
      replace hor := Lib.hid hor
      replace hur := Lib.hid hur
      go_wp2_with fail
      go_loopw [7, 8] (fun fv iv wr => ∃ i : Nat, iv = .int .i64 (i : Int) ∧ i ≤ q ∧ fv = .bool (decide ((k : Int) ∈ l.take i)) ∧ wr = w5) (fun _ iv _ => q - (intOf iv).toNat)
      case atStart => exact ⟨0, rfl, Nat.zero_le _, by simp, rfl⟩
      case round =>
        obtain ⟨i, rfl, hiq, rfl, rfl⟩ := hrel
        by_cases hiq' : i < q
        · have hiq2 : (i : Int) < (q : Int) := by omega
          have hi0 : (0 : Int) ≤ (i : Int) := by omega
          have hil : i < l.length := by rw [hq.out]; exact hiq'
          obtain ⟨g, off, rfl, hc⟩ := hl3.out.resolve_left (by omega)
          have x0 := hur.out.cell (hc i (.int .i64 l[i]) (by rw [List.getElem?_map, List.getElem?_eq_getElem hil]; rfl)) fun h => h
          have hms := Lib.hid (mem_take_succ hil (k : Int))
          obtain ⟨y, hy⟩ : ∃ y, l[i] = y := ⟨_, rfl⟩
          rw [hy] at x0 hms
          clear hc hy hil hk hpw hl3
          by_cases hf : (k : Int) ∈ l.take i
          · simp only [hf, decide_true]
            have hf1 : (k : Int) ∈ l.take (i + 1) := hms.out.2 (.inl hf)
            replace hf := Lib.hid hf
            replace hf1 := Lib.hid hf1
            clear hms
            go_wp2_with fail
            go_roundw
            case rel => exact ⟨i + 1, by go_num, by omega, by simp [hf1.out], trivial⟩
            case measure => simp [intOf]; omega
          · simp only [hf, decide_false]
            have hms2 : (k : Int) ∈ l.take (i + 1) ↔ y = (k : Int) := hms.out.trans ⟨fun h => h.resolve_left hf, .inr⟩
            replace hms2 := Lib.hid hms2
            clear hms
            replace hf := Lib.hid hf
            by_cases he : y = (k : Int)
            · subst he
              go_wp2_with fail
              go_roundw
              case rel => exact ⟨i + 1, by go_num, by omega, by simp [hms2.out], trivial⟩
              case measure => simp [intOf]; omega
            · have he1 : (y = (k : Int)) = False := eq_false he
              have he2 : (y == (k : Int)) = false := by simp [he]
              have he3 : ((k : Int) = y) = False := eq_false (fun h => he h.symm)
              replace he := Lib.hid he
              go_wp2_with fail
              go_roundw
              case rel => exact ⟨i + 1, by go_num, by omega, by simp [hms2.out, he.out], trivial⟩
              case measure => simp [intOf]; omega
        · obtain rfl : i = q := by omega
          have ht : l.take i = l := List.take_of_length_le (by rw [hq.out]; exact Nat.le_refl _)
          rw [ht, ← hpk.out]
          clear ht hk hl3
          by_cases hf : pick k = true
          · rw [hf]
            have hy8 := Lib.hid (hy9.out hf)
            clear hy9 hn9 hpk hf
            have hlen := pk_len r.P pick k
            have hzr : w.heap.size + 1 + 1 ≤ wr.heap.size := heap_lt hyr.out
            go_wp2_with (at_builtin; go_must (refine wpList_app1n rfl _ _ 62 rfl (w.heap.size + 1 + 1) 98 (.agg #[.int .i64 0, .string ⟨#[]⟩]) 2 24 Try.underlying62 hi2.out rfl _ _ _ rfl hor.out [.int .i64 (pi : Int), .string ⟨ps.toArray⟩] wr.heap.size rfl rfl rfl (by intro u hu; simp at hu; rcases hu with rfl | rfl <;> rfl) (by unfold maxLen; omega) (by omega) hzr ?_))
            intro v6 w6 ho6 hu6 hb6
            have hg5 : ∀ k, At u5 k → w.heap.size + 1 + 1 ≤ k := fun k hk => own_ge hor.out hk
            have hx6 := Lib.hid (hu6.heap hxr.out fun h => by have := hg5 _ h; omega)
            have hy6 := Lib.hid (hu6.heap hyr.out fun h => by have := hg5 _ h; omega)
            have hU6 : Hid (Upd Non w w6) := Lib.hid (hur.out.trans hu6 fun k hk h => by have := hg5 _ h; omega)
            replace ho6 := Lib.hid ho6
            clear hu6 hb6 hg5 c0 f0
            go_wp2_with fail
            go_roundw
            case rel => exact ⟨k + 1, by go_num, by omega, hx6.out, hy6.out, by rw [hy8.out, List.length_append, List.length_singleton, List.map_append, List.flatten_append]; simpa [wc, strV] using ho6.out, hU6.out⟩
            case measure => simp [intOf]; omega
          · have hf : pick k = false := by simpa using hf
            rw [hf]
            have hn8 := Lib.hid (hn9.out hf)
            clear hy9 hn9 hpk hf
            go_wp2_with fail
            go_roundw
            case rel => exact ⟨k + 1, by go_num, by omega, hxr.out, hyr.out, by rw [hn8.out]; exact hor.out, hur.out⟩
            case measure => simp [intOf]; omega
    · obtain rfl : n = k := by omega
      clear hkm hkn hn hq hl9 hl3 hpick hpw
      have hzz : w.heap.size + 1 < w5.heap.size := heap_lt hyr
      have hx1 := heap_setCell_same w5 w.heap.size 3 _ _ (.int .i64 (-1)) hxr
      simp only [Array.set!_eq_setIfInBounds, List.setIfInBounds_toArray, List.set_cons_succ, List.set_cons_zero] at hx1
      have hx2 := heap_setCell_same _ w.heap.size 4 _ _ (.bool false) hx1
      simp only [Array.set!_eq_setIfInBounds, List.setIfInBounds_toArray, List.set_cons_succ, List.set_cons_zero] at hx2
      have hy1 := (heap_setCell_other w5 ⟨w.heap.size, 3, none⟩ (w.heap.size + 1) (.int .i64 (-1)) (by simp)).trans hyr
      have hy2 := (heap_setCell_other _ ⟨w.heap.size, 4, none⟩ (w.heap.size + 1) (.bool false) (by simp)).trans hy1
      have hU1 : Upd Non w (w5.setCell ⟨w.heap.size, 3, none⟩ (.int .i64 (-1))) := hur.then_setCell (fun h => by simp at h) _
      have hU2 : Upd Non w ((w5.setCell ⟨w.heap.size, 3, none⟩ (.int .i64 (-1))).setCell ⟨w.heap.size, 4, none⟩ (.bool false)) := hU1.then_setCell (fun h => by simp at h) _
      have ho2 := ownsRow_setCell_below (ownsRow_setCell_below hor (a := ⟨w.heap.size, 3, none⟩) (by dsimp only; omega) (.int .i64 (-1))) (a := ⟨w.heap.size, 4, none⟩) (by dsimp only; omega) (.bool false)
      have hc := Lib.hid (hk.out u5 _ hU2 (has_of_owns ho2))
      obtain ⟨c2, f2⟩ := cells_of hx2
      clear ho2 hx1 hy1 hU1 hk hor hur
      replace hy2 := Lib.hid hy2
      replace hU2 := Lib.hid hU2
      go_wp2_with fail
      refine hc.out.mono ?_
      rintro en w4 ⟨a9, c9, rfl, hR4, hu4, hn4⟩
      have hy := hu4.heap hy2.out fun h => h
      have hU4 : Upd Non w w4 := hU2.out.trans hu4 fun _ _ h => h
      have hz4 : w5.heap.size ≤ w4.heap.size := Nat.le_trans (by simp) hu4.size
      replace hn4 : ∀ k, At (.slice a9 m c9) k → w5.heap.size ≤ k ∧ k < w4.heap.size := fun k hk => by have := hn4 k hk; simpa using this
      clear hu4 hx2 c2 f2 hy2 hU2 hc c0 f0 hxr hyr
      simp only []
      go_wp2_with (refine wpList_store_blk rfl 64 _ _ rfl (w.heap.size + 1) #[.int .i64 (m : Int), .slice a9 m c9, .slice none 0 0, .int .i64 (-1), .bool false] _ _ rfl rfl hy rfl hs5.out (by simp [Value.oneCell']) ?_)
      intro w5 hy5 hu5
      have hU5 : Upd Non w w5 := hU4.trans hu5 fun k hk h => by omega
      have hR5 := hR4.upd hu5 (fun k hk h => by have := (hn4 k hk).1; omega) (fun k hk h => by simp [At, Value.ownBlock] at hk)
      have hz5 := hu5.size
      obtain ⟨c1, f1⟩ := cells_of hy5
      clear hy5 hu5 hR4 hU4
      go_wp2_with fail
      refine bodyPost_ret (v := .agg #[.int .i64 (m : Int), .slice a9 m c9, .slice none 0 0, .int .i64 (-1), .bool false]) (by simp [results, Try.results25, go_sem, c1]; try rfl) rfl ⟨.slice a9 m c9, by simp only [rfv, h1'.out, h2'.out, h3'.out], hR5, hU5, fun k hk => by have := hn4 k hk; omega⟩
end Go.Proofs.Ytgdkgnolkepgdaa
