/- The walks over package pager: Write, Rewrite. -/
import Derived.Test.YtfjcjppfihafgaaMPgF
namespace Go.Proofs.Ytfjcjppfihafgaa
set_option maxRecDepth 100000
open Go.RowKit Go.Amb
set_option linter.unusedVariables false
set_option linter.unusedSimpArgs false
section
variable {w0 w w' : World} {P D : Nat} {F F' : Nat → Prop} {r g I fr : Nat} {st : List Nat} {B : Nat} {d d' : Dk}
theorem kp_two (hu : Upd (fun k => k = g ∨ k = I) w w') : Kp w (own F P I r g) w' (own F P I r g) :=
  ⟨hu.mono fun k _ hk => hk.elim (fun e => .inr (.inr (.inr (.inr e)))) (fun e => .inr (.inr (.inl e))), fun _ h => .inl h⟩
/-- What Write answers, and leaves. -/
def wrV (st : List Nat) (b : List UInt8) : Int × Int × List Nat := if 1024 < b.length then (0, 5, st) else match frst st with
  | none => (0, 10, st)
  | some i => ((i : Int), 0, st.set i 2)
def wrD (fr : Nat) (st : List Nat) (b : List UInt8) (d : Dk) : Dk := if 1024 < b.length then d else match frst st with
  | none => d
  | some i => (overD (fr + i * 8) b 8 0 d).1
theorem over_ok {n base : Nat} {b : List UInt8} {d d' : Dk} (h : Liv d n) (hn : base + 8 ≤ n) (ho : overD base b 8 0 d = (d', 0)) : Liv d' n := by
  obtain ⟨d2, h1, h2, -⟩ := over_liv (b := b) 8 0 d h (by omega)
  rw [ho] at h1
  obtain rfl : d' = d2 := by injection h1
  exact h2
theorem Pg.wrote (h : Pg w0 w P D F r g I fr st d) {i : Nat} (hi : i < st.length) {b : List UInt8} (ho : overD (fr + i * 8) b 8 0 d = (d', 0)) {st' : List Nat} (hl : st'.length = st.length) (h4 : ∀ s ∈ st', s < 4) (hb : Pb w0 w' P D F' r g I fr st' (stB st') d') (hk : Kp w (own F P I r g) w' (own F' P I r g)) : PgS w0 w P D F r g I fr st' (fun x => x = (overD (fr + i * 8) b 8 0 d).1) w' := by
  have hliv := over_ok h.liv (by have := h.room; omega) ho
  have hK := hliv.len
  exact ⟨F', d', ⟨hb, by rw [hK]; exact hliv, by rw [hl, hK]; exact h.room, h4⟩, by rw [ho], hk⟩
set_option maxHeartbeats 2000000 in
theorem gWrite (h : Pg w0 w P D F r g I fr st d) (hP : d.P.length ≤ 999000) (v : Value) (b : List UInt8) (hBy : Bytes w v b) (hv : ∀ k, At v k → ¬ own F P I r g k) :
    Calls Try.prog 7 #[.pointer (some ⟨P, 0, none⟩), v] w (fun en w' => en = .returned (.tuple #[.int .i64 (wrV st b).1, .int .i64 (wrV st b).2.1]) ∧ PgS w0 w P D F r g I fr (wrV st b).2.2 (fun x => x = wrD fr st b d) w') := by
  have hm := Lib.hid (gMade h.pb)
  have hn := h.pb.al.most
  have hh := Lib.hid h
  obtain ⟨va, vc, rfl⟩ := bytes_form hBy
  unfold wrV wrD
  by_cases hb : 1024 < b.length
  · have hbI : (1024 : Int) < (b.length : Int) := by omega
    rw [if_pos hb, if_pos hb]
    clear hBy hv h hb
    go_enter Try.func7, Try.ntmps7
    go_wp2_with fail
    refine hm.out.mono ?_
    rintro en w1 ⟨rfl, hu⟩
    go_wp2_with fail
    go_ret2
    exact ⟨rfl, hh.out.stay hu⟩
  · have hbI : decide ((1024 : Int) < (b.length : Int)) = false := decide_eq_false (by omega)
    rw [if_neg hb, if_neg hb]
    have hT := Lib.hid (fun w' (hu : Upd Non w w') => aTake r g st.length (stB st) 1 w' (h.pb.non hu).al (by decide))
    cases hf : frst st with
    | none =>
      rw [take_none hf] at hT
      clear hBy hv h hb hf
      go_enter Try.func7, Try.ntmps7
      go_wp2_with fail
      refine hm.out.mono ?_
      rintro en w1 ⟨rfl, hu⟩
      obtain ⟨p0, p1, p2, p3⟩ := cells4 (hh.out.pb.non hu).cell
      go_wp2_with fail
      refine (hT.out _ hu).mono ?_
      rintro en w2 ⟨rfl, ha, hu2⟩
      have hfin := Lib.hid (hh.out.next ((hh.out.pb.non hu).alloc ha hu2) rfl hh.out.s4 ((hu.mono fun _ _ h => h.elim).trans hu2 fun _ _ e => .inl e))
      clear ha hu2 hu p0 p1 p2 p3
      go_wp2_with fail
      go_ret2
      exact ⟨rfl, hfin.out⟩
    | some i =>
      rw [take_some hf (v := 2) (by decide)] at hT
      have hi := (frst_some hf).1
      have hiI : (i : Int) < (st.length : Int) := by omega
      have hi0 : (0 : Int) ≤ (i : Int) := by omega
      have hBv := Lib.hid (fun w' (hu : Upd (fun k => k = g) w w') => hBy.upd hu fun k hk e => hv k hk (.inr (.inr (.inr (.inr e)))))
      have hbl : Hid (b.length ≤ 1024) := Lib.hid (by omega)
      replace hi := Lib.hid hi
      replace hP := Lib.hid hP
      clear hBy hv h hb hf
      simp only []
      go_enter Try.func7, Try.ntmps7
      go_wp2_with fail
      refine hm.out.mono ?_
      rintro en w1 ⟨rfl, hu⟩
      obtain ⟨p0, p1, p2, p3⟩ := cells4 (hh.out.pb.non hu).cell
      go_wp2_with fail
      refine (hT.out _ hu).mono ?_
      rintro en w2 ⟨rfl, ha, hu2⟩
      have hB2 := (hh.out.pb.non hu).alloc ha hu2
      have hU2 : Upd (fun k => k = g) w w2 := (hu.mono fun _ _ h => h.elim).trans hu2 fun _ _ e => e
      have hBy2 := hBv.out w2 hU2
      have hO := Lib.hid (gOver hB2 hh.out.liv hh.out.room hP.out i hi.out _ b hbl.out hBy2)
      clear ha hu2 hu p0 p1 p2 p3 hBy2 hB2
      go_wp2_with fail
      refine hO.out.mono ?_
      rintro en w3 ⟨rfl, F3, d3, ho, hB3, hK3⟩
      obtain ⟨p0, p1, p2, p3⟩ := cells4 hB3.cell
      obtain ⟨x0, f0⟩ := hB3.at i hi.out
      have hB4 := hB3.set i 2
      have hK4 := ((kp_two (hU2.mono fun _ _ e => .inl e)).trans hK3).trans (kp_two ((Pb.upd_set w3 I i (.int .i64 2)).mono fun _ _ e => .inr e))
      have hfin := Lib.hid (hh.out.wrote hi.out ho (List.length_set ..) (set_lt4 hh.out.s4 i 2 (by decide)) hB4 hK4)
      clear hB3 hB4 hK3 hK4 ho hO
      go_wp2_with fail
      go_ret2
      exact ⟨rfl, hfin.out⟩
/-- What Rewrite answers. -/
def rwV (st : List Nat) (b : List UInt8) (i : Int) : Int := if 1024 < b.length then 5 else if (0 ≤ i ∧ i < (st.length : Int)) ∧ st.getD i.toNat 0 = 2 then 0 else 7
def rwD (fr : Nat) (st : List Nat) (b : List UInt8) (i : Int) (d : Dk) : Dk := if 1024 < b.length then d else if (0 ≤ i ∧ i < (st.length : Int)) ∧ st.getD i.toNat 0 = 2 then (overD (fr + i.toNat * 8) b 8 0 d).1 else d
set_option maxHeartbeats 2000000 in
theorem gRewrite (h : Pg w0 w P D F r g I fr st d) (hP : d.P.length ≤ 999000) (i : Int) (v : Value) (b : List UInt8) (hBy : Bytes w v b) (hv : ∀ k, At v k → ¬ own F P I r g k) :
    Calls Try.prog 10 #[.pointer (some ⟨P, 0, none⟩), .int .i64 i, v] w (fun en w' => en = .returned (.int .i64 (rwV st b i)) ∧ PgS w0 w P D F r g I fr st (fun x => x = rwD fr st b i d) w') := by
  have hm := Lib.hid (gMade h.pb)
  have ht := Lib.hid (fun w' (hu : Upd Non w w') => gThere (h.pb.non hu) i)
  have hn := h.pb.al.most
  have hh := Lib.hid h
  obtain ⟨va, vc, rfl⟩ := bytes_form hBy
  unfold rwV rwD
  by_cases hb : 1024 < b.length
  · have hbI : (1024 : Int) < (b.length : Int) := by omega
    rw [if_pos hb, if_pos hb]
    clear hBy hv h hb
    go_enter Try.func10, Try.ntmps10
    go_wp2_with fail
    refine hm.out.mono ?_
    rintro en w1 ⟨rfl, hu⟩
    go_wp2_with fail
    go_ret
    exact ⟨rfl, hh.out.stay hu⟩
  · have hbI : decide ((1024 : Int) < (b.length : Int)) = false := decide_eq_false (by omega)
    rw [if_neg hb, if_neg hb]
    by_cases hi : 0 ≤ i ∧ i < (st.length : Int)
    · rw [decide_eq_true hi] at ht
      obtain ⟨h0, h1⟩ := hi
      obtain ⟨j, rfl⟩ := Int.eq_ofNat_of_zero_le h0
      rw [Int.toNat_natCast]
      have hj : Hid (j < st.length) := Lib.hid (by omega)
      obtain ⟨a, ha⟩ : ∃ a, st.getD j 0 = a := ⟨_, rfl⟩
      rw [ha]
      replace ha := Lib.hid ha
      by_cases h2 : a = 2
      · subst h2
        rw [if_pos ⟨⟨h0, h1⟩, rfl⟩, if_pos ⟨⟨h0, h1⟩, rfl⟩]
        have hBv := Lib.hid (fun w' (hu : Upd Non w w') => hBy.upd hu fun k hk e => e)
        have hbl : Hid (b.length ≤ 1024) := Lib.hid (by omega)
        replace hP := Lib.hid hP
        clear hBy hv h hb
        go_enter Try.func10, Try.ntmps10
        go_wp2_with fail
        refine hm.out.mono ?_
        rintro en w1 ⟨rfl, hu⟩
        go_wp2_with fail
        refine (ht.out _ hu).mono ?_
        rintro en w2 ⟨rfl, hu2⟩
        replace hu := hu.trans hu2 fun _ _ h => h
        have hB := hh.out.pb.non hu
        obtain ⟨p0, p1, p2, p3⟩ := cells4 hB.cell
        obtain ⟨x0, f0⟩ := hB.at j hj.out
        rw [ha.out] at x0
        have hO := Lib.hid (gOver hB hh.out.liv hh.out.room hP.out j hj.out _ b hbl.out (hBv.out _ hu))
        clear hu2 hB
        go_wp2_with fail
        refine hO.out.mono ?_
        rintro en w3 ⟨rfl, F3, d3, ho, hB3, hK3⟩
        have hfin := Lib.hid (hh.out.wrote hj.out ho rfl hh.out.s4 hB3 ((Kp.non hu).trans hK3))
        clear hB3 hK3 ho hO p0 p1 p2 p3 x0 f0
        go_wp2_with fail
        go_ret
        exact ⟨rfl, hfin.out⟩
      · rw [if_neg (fun e => h2 e.2), if_neg (fun e => h2 e.2)]
        have h2b : ((a : Int) != 2) = true := by simp; omega
        clear hBy hv h hb
        go_enter Try.func10, Try.ntmps10
        go_wp2_with fail
        refine hm.out.mono ?_
        rintro en w1 ⟨rfl, hu⟩
        go_wp2_with fail
        refine (ht.out _ hu).mono ?_
        rintro en w2 ⟨rfl, hu2⟩
        replace hu := hu.trans hu2 fun _ _ h => h
        have hB := hh.out.pb.non hu
        obtain ⟨p0, p1, p2, p3⟩ := cells4 hB.cell
        obtain ⟨x0, f0⟩ := hB.at j hj.out
        rw [ha.out] at x0
        clear hu2 hB
        go_wp2_with fail
        go_ret
        exact ⟨rfl, hh.out.stay hu⟩
    · rw [if_neg (fun e => hi e.1), if_neg (fun e => hi e.1)]
      rw [decide_eq_false hi] at ht
      clear hi hBy hv h hb
      go_enter Try.func10, Try.ntmps10
      go_wp2_with fail
      refine hm.out.mono ?_
      rintro en w1 ⟨rfl, hu⟩
      go_wp2_with fail
      refine (ht.out _ hu).mono ?_
      rintro en w2 ⟨rfl, hu2⟩
      replace hu := hu.trans hu2 fun _ _ h => h
      go_wp2_with fail
      go_ret
      exact ⟨rfl, hh.out.stay hu⟩
end
end Go.Proofs.Ytfjcjppfihafgaa
