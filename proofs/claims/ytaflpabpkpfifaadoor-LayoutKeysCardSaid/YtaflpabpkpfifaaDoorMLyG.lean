/- The walks over ambryref21: bytes, Key, Span. -/
import Derived.Test.YtaflpabpkpfifaaDoorMLyF
namespace Go.Proofs.YtaflpabpkpfifaaDoor
set_option maxRecDepth 100000
open Go.RowKit Go.Amb
set_option linter.unusedVariables false
attribute [local go_sem ↓] Go.wp_at_zero Go.wp_at_succ

theorem q21Bytes (v : Value) (l : List Part) (w : World) (hn : ∀ p ∈ l, numOk p ∧ p.s.length ≤ 140737488355328) (hP : Parts w v l) : Calls Tryd.prog 37 #[v] w (Ret (txtV (encR l).1) w) := by
  have hE := Lib.hid (rEncode v l w hn hP)
  obtain ⟨a, c, rfl⟩ : ∃ a c, v = .slice a l.length c := by obtain ⟨_, a, c, e, _⟩ := hP; exact ⟨a, c, e⟩
  unfold txtV
  generalize (encR l).1 = s at *
  generalize (encR l).2 = e at *
  go_enter Tryd.func37, Tryd.ntmps37
  go_wp2_with fail
  refine hE.out.mono ?_
  rintro e w1 ⟨rfl, hu⟩
  go_wp2_with fail
  go_ret
  exact ⟨rfl, hu⟩
theorem numbersB_eq (x : Ky) : numbersB x = (numbersM x (numsK x.k) && (decide (x.k ≠ 1) || x.o.isEmpty)) := rfl
theorem partsK_ok (x : Ky) (hn : ∀ n ∈ x.ns, i64Ok n) (hsb : x.b.length ≤ 140737488355328) (hso : x.o.length ≤ 140737488355328) : ∀ p ∈ partsK x, numOk p ∧ p.s.length ≤ 140737488355328 := by
  rw [← partsTo_two]
  exact partsTo_ok _ _ _ (by simp; exact ⟨hsb, hso⟩) hn

def ns0 (x : Ky) : Nat := x.ns.length
set_option maxHeartbeats 700000 in
theorem q21Key (x : Ky) (nv : Value) (w : World) (hN : Ints w nv x.ns) (hn : ∀ n ∈ x.ns, i64Ok n) (hsb : x.b.length ≤ 140737488355328) (hso : x.o.length ≤ 140737488355328) :
    Calls Tryd.prog 11 #[kyV x nv] w (Ret (.tuple #[txtV (keyR x).1, .int .i64 (keyR x).2]) w) := by
  have hcK := Lib.hid (q21Nums x.k)
  have hcN := Lib.hid (fun w' (hu : Upd Non w w') => q21Numbers x nv (numsK x.k) w' (hN.upd hu fun _ _ h => h))
  have hcB := Lib.hid (fun w => rBucket x.b w hsb)
  have hcO := Lib.hid (fun w => rObject x.o w hso)
  have hcP : Hid (1 ≤ x.k ∧ x.k ≤ 6 → x.ns.length ≤ 3 → ∀ w1, Upd Non w w1 → Calls Tryd.prog 38 #[kyV x nv] w1 (PartsRet (partsK x) w1)) := Lib.hid (fun h1 h2 w1 hu => q21Parts x nv w1 h1 h2 (hN.upd hu fun _ _ h => h))
  have hcE : Hid (∀ w1 v, Parts w1 v (partsK x) → Calls Tryd.prog 37 #[v] w1 (Ret (txtV (encK x)) w1)) := Lib.hid (fun w1 v h => q21Bytes v _ w1 (partsK_ok x hn hsb hso) h)
  obtain ⟨a, c, rfl, hlc, hc, -⟩ := ints_at hN
  have hmx := hc
  unfold maxLen at hmx
  by_cases hk6 : 1 ≤ x.k ∧ x.k ≤ 6
  · have hge : 0 ≤ numsK x.k := by
      obtain h | h | h | h | h | h : x.k = 1 ∨ x.k = 2 ∨ x.k = 3 ∨ x.k = 4 ∨ x.k = 5 ∨ x.k = 6 := by omega
      all_goals rw [h]; decide
    have hle := numsK_le x.k
    have hq := numbersB_eq x
    by_cases hM : numbersM x (numsK x.k) = true
    · by_cases hln : (x.ns.length : Int) = numsK x.k
      · replace hcP := Lib.hid (hcP.out hk6 (by omega))
        rw [hM, Bool.true_and] at hq
        rw [hM] at hcN
        rw [← hln] at hcK hcN
        have hM2 := Lib.hid hM
        have hng : ¬ (ns0 x : Int) < 0 := by unfold ns0; omega
        clear hM hge hle
        obtain ⟨k, b, o, ns⟩ := x
        simp only at hln hq hcB hcO hk6
        unfold ns0 at hng
        by_cases hk : k = 1
        · obtain ⟨hkb1, hkb2⟩ : (k == 1) = true ∧ (k != 1) = false := by simp [hk]
          cases o with
          | nil =>
            have hnb : numbersB ⟨k, b, [], ns⟩ = true := by rw [hq]; simp
            rcases bk_or b with hb0 | hb0
            · rw [keyR_ok (x := ⟨k, b, [], ns⟩) hnb hln ⟨hb0, .inl hk⟩]
              rw [hb0] at hcB
              clear hq hb0 hnb
              replace hk := Lib.hid hk
              replace hk6 := Lib.hid hk6
              replace hln := Lib.hid hln
              unfold kyV txtV at *
              go_enter Tryd.func11, Tryd.ntmps11
              simp only at *
              go_wp2_with fail
              refine (hcK.out _).mono ?_
              rintro e w1 ⟨rfl, hB⟩
              replace hB : KyBox w k b [] (.slice a ns.length c) w1 := hB
              obtain ⟨c0, c1, c2, c3⟩ := hB.cells
              go_wp2_with fail
              refine (hcN.out _ hB.upd).mono ?_
              rintro e w2 ⟨rfl, hu2⟩
              replace hB := hB.trans hu2 fun _ h => h.elim
              clear c0 c1 c2 c3 hu2
              obtain ⟨c0, c1, c2, c3⟩ := hB.cells
              go_wp2_with fail
              refine (hcB.out _).mono ?_
              rintro e w3 ⟨rfl, hu3⟩
              replace hB := hB.trans hu3 fun _ h => h.elim
              clear c0 c1 c2 c3 hu3
              obtain ⟨c0, c1, c2, c3⟩ := hB.cells
              go_wp2_with fail
              refine (hcP.out _ hB.upd).mono ?_
              rintro e w5 ⟨v5, rfl, hP5, hu5⟩
              replace hB := hB.trans hu5 fun _ h => h.elim
              clear c0 c1 c2 c3 hu5
              have hcE5 := Lib.hid (hcE.out w5 v5 hP5)
              obtain ⟨a5, d5, rfl⟩ : ∃ a c, v5 = .slice a _ c := by obtain ⟨_, a, c, e, _⟩ := hP5; exact ⟨a, c, e⟩
              clear hP5
              go_wp2_with fail
              refine hcE5.out.mono ?_
              rintro e w6 ⟨rfl, hu6⟩
              replace hB := hB.trans hu6 fun _ h => h.elim
              go_wp2_with fail
              go_ret2
              exact ⟨rfl, hB.upd⟩
            · rw [keyR_name (x := ⟨k, b, [], ns⟩) hnb hln (fun e => by have := e.1; simp only at this; rw [hb0] at this; cases this)]
              rw [hb0] at hcB
              clear hq hb0 hnb
              replace hk := Lib.hid hk
              replace hk6 := Lib.hid hk6
              replace hln := Lib.hid hln
              unfold kyV txtV at *
              go_enter Tryd.func11, Tryd.ntmps11
              simp only at *
              go_wp2_with fail
              refine (hcK.out _).mono ?_
              rintro e w1 ⟨rfl, hB⟩
              replace hB : KyBox w k b [] (.slice a ns.length c) w1 := hB
              obtain ⟨c0, c1, c2, c3⟩ := hB.cells
              go_wp2_with fail
              refine (hcN.out _ hB.upd).mono ?_
              rintro e w2 ⟨rfl, hu2⟩
              replace hB := hB.trans hu2 fun _ h => h.elim
              clear c0 c1 c2 c3 hu2
              obtain ⟨c0, c1, c2, c3⟩ := hB.cells
              go_wp2_with fail
              refine (hcB.out _).mono ?_
              rintro e w3 ⟨rfl, hu3⟩
              replace hB := hB.trans hu3 fun _ h => h.elim
              clear c0 c1 c2 c3 hu3
              obtain ⟨c0, c1, c2, c3⟩ := hB.cells
              go_wp2_with fail
              go_ret2
              exact ⟨rfl, hB.upd⟩
          | cons o0 or =>
            have hnb : ¬ numbersB ⟨k, b, o0 :: or, ns⟩ = true := by rw [hq]; simp [hk]
            rw [keyR_arg1 hnb]
            have hb0 := trivial
            clear hq hb0 hnb
            replace hk := Lib.hid hk
            replace hk6 := Lib.hid hk6
            replace hln := Lib.hid hln
            unfold kyV txtV at *
            go_enter Tryd.func11, Tryd.ntmps11
            simp only at *
            go_wp2_with fail
            refine (hcK.out _).mono ?_
            rintro e w1 ⟨rfl, hB⟩
            replace hB : KyBox w k b (o0 :: or) (.slice a ns.length c) w1 := hB
            obtain ⟨c0, c1, c2, c3⟩ := hB.cells
            go_wp2_with fail
            refine (hcN.out _ hB.upd).mono ?_
            rintro e w2 ⟨rfl, hu2⟩
            replace hB := hB.trans hu2 fun _ h => h.elim
            clear c0 c1 c2 c3 hu2
            obtain ⟨c0, c1, c2, c3⟩ := hB.cells
            go_wp2_with fail
            go_ret2
            exact ⟨rfl, hB.upd⟩
        · obtain ⟨hkb1, hkb2⟩ : (k == 1) = false ∧ (k != 1) = true := by simp [hk]
          have hnb : numbersB ⟨k, b, o, ns⟩ = true := by rw [hq]; simp [hk]
          rcases bk_or b with hb0 | hb0
          · rcases obj_or o with ho0 | ho0
            · rw [keyR_ok (x := ⟨k, b, o, ns⟩) hnb hln ⟨hb0, .inr ho0⟩]
              rw [hb0] at hcB
              rw [ho0] at hcO
              clear ho0
              clear hq hb0 hnb
              replace hk := Lib.hid hk
              replace hk6 := Lib.hid hk6
              replace hln := Lib.hid hln
              unfold kyV txtV at *
              go_enter Tryd.func11, Tryd.ntmps11
              simp only at *
              go_wp2_with fail
              refine (hcK.out _).mono ?_
              rintro e w1 ⟨rfl, hB⟩
              replace hB : KyBox w k b o (.slice a ns.length c) w1 := hB
              obtain ⟨c0, c1, c2, c3⟩ := hB.cells
              go_wp2_with fail
              refine (hcN.out _ hB.upd).mono ?_
              rintro e w2 ⟨rfl, hu2⟩
              replace hB := hB.trans hu2 fun _ h => h.elim
              clear c0 c1 c2 c3 hu2
              obtain ⟨c0, c1, c2, c3⟩ := hB.cells
              go_wp2_with fail
              refine (hcB.out _).mono ?_
              rintro e w3 ⟨rfl, hu3⟩
              replace hB := hB.trans hu3 fun _ h => h.elim
              clear c0 c1 c2 c3 hu3
              obtain ⟨c0, c1, c2, c3⟩ := hB.cells
              go_wp2_with fail
              refine (hcO.out _).mono ?_
              rintro e w4 ⟨rfl, hu4⟩
              replace hB := hB.trans hu4 fun _ h => h.elim
              clear c0 c1 c2 c3 hu4
              obtain ⟨c0, c1, c2, c3⟩ := hB.cells
              go_wp2_with fail
              refine (hcP.out _ hB.upd).mono ?_
              rintro e w5 ⟨v5, rfl, hP5, hu5⟩
              replace hB := hB.trans hu5 fun _ h => h.elim
              clear c0 c1 c2 c3 hu5
              have hcE5 := Lib.hid (hcE.out w5 v5 hP5)
              obtain ⟨a5, d5, rfl⟩ : ∃ a c, v5 = .slice a _ c := by obtain ⟨_, a, c, e, _⟩ := hP5; exact ⟨a, c, e⟩
              clear hP5
              go_wp2_with fail
              refine hcE5.out.mono ?_
              rintro e w6 ⟨rfl, hu6⟩
              replace hB := hB.trans hu6 fun _ h => h.elim
              go_wp2_with fail
              go_ret2
              exact ⟨rfl, hB.upd⟩
            · rw [keyR_name (x := ⟨k, b, o, ns⟩) hnb hln (fun e => by rcases e.2 with e | e; exact hk e; simp only at e; rw [ho0] at e; cases e)]
              rw [hb0] at hcB
              rw [ho0] at hcO
              clear ho0
              clear hq hb0 hnb
              replace hk := Lib.hid hk
              replace hk6 := Lib.hid hk6
              replace hln := Lib.hid hln
              unfold kyV txtV at *
              go_enter Tryd.func11, Tryd.ntmps11
              simp only at *
              go_wp2_with fail
              refine (hcK.out _).mono ?_
              rintro e w1 ⟨rfl, hB⟩
              replace hB : KyBox w k b o (.slice a ns.length c) w1 := hB
              obtain ⟨c0, c1, c2, c3⟩ := hB.cells
              go_wp2_with fail
              refine (hcN.out _ hB.upd).mono ?_
              rintro e w2 ⟨rfl, hu2⟩
              replace hB := hB.trans hu2 fun _ h => h.elim
              clear c0 c1 c2 c3 hu2
              obtain ⟨c0, c1, c2, c3⟩ := hB.cells
              go_wp2_with fail
              refine (hcB.out _).mono ?_
              rintro e w3 ⟨rfl, hu3⟩
              replace hB := hB.trans hu3 fun _ h => h.elim
              clear c0 c1 c2 c3 hu3
              obtain ⟨c0, c1, c2, c3⟩ := hB.cells
              go_wp2_with fail
              refine (hcO.out _).mono ?_
              rintro e w4 ⟨rfl, hu4⟩
              replace hB := hB.trans hu4 fun _ h => h.elim
              clear c0 c1 c2 c3 hu4
              obtain ⟨c0, c1, c2, c3⟩ := hB.cells
              go_wp2_with fail
              go_ret2
              exact ⟨rfl, hB.upd⟩
          · rw [keyR_name (x := ⟨k, b, o, ns⟩) hnb hln (fun e => by have := e.1; simp only at this; rw [hb0] at this; cases this)]
            rw [hb0] at hcB
            clear hq hb0 hnb
            replace hk := Lib.hid hk
            replace hk6 := Lib.hid hk6
            replace hln := Lib.hid hln
            unfold kyV txtV at *
            go_enter Tryd.func11, Tryd.ntmps11
            simp only at *
            go_wp2_with fail
            refine (hcK.out _).mono ?_
            rintro e w1 ⟨rfl, hB⟩
            replace hB : KyBox w k b o (.slice a ns.length c) w1 := hB
            obtain ⟨c0, c1, c2, c3⟩ := hB.cells
            go_wp2_with fail
            refine (hcN.out _ hB.upd).mono ?_
            rintro e w2 ⟨rfl, hu2⟩
            replace hB := hB.trans hu2 fun _ h => h.elim
            clear c0 c1 c2 c3 hu2
            obtain ⟨c0, c1, c2, c3⟩ := hB.cells
            go_wp2_with fail
            refine (hcB.out _).mono ?_
            rintro e w3 ⟨rfl, hu3⟩
            replace hB := hB.trans hu3 fun _ h => h.elim
            clear c0 c1 c2 c3 hu3
            obtain ⟨c0, c1, c2, c3⟩ := hB.cells
            go_wp2_with fail
            go_ret2
            exact ⟨rfl, hB.upd⟩
      · rw [keyR_arg2 hln]
        have hln2 : ((x.ns.length : Int) != numsK x.k) = true := by simp [hln]
        rw [hM] at hcN
        generalize numsK x.k = m at *
        have hneg : ¬ m < 0 := by omega
        clear hq
        obtain ⟨k, b, o, ns⟩ := x
        unfold kyV txtV at *
        go_enter Tryd.func11, Tryd.ntmps11
        simp only at *
        go_wp2_with fail
        refine (hcK.out _).mono ?_
        rintro e w1 ⟨rfl, hB⟩
        replace hB : KyBox w k b o (.slice a ns.length c) w1 := hB
        obtain ⟨c0, c1, c2, c3⟩ := hB.cells
        go_wp2_with fail
        refine (hcN.out _ hB.upd).mono ?_
        rintro e w2 ⟨rfl, hu2⟩
        replace hB := hB.trans hu2 fun _ h => h.elim
        clear c0 c1 c2 c3 hu2
        obtain ⟨c0, c1, c2, c3⟩ := hB.cells
        go_wp2_with fail
        go_ret2
        exact ⟨rfl, hB.upd⟩
    · rw [keyR_arg1 (fun e => by rw [hq, Bool.and_eq_true] at e; exact hM e.1)]
      have hM2 : numbersM x (numsK x.k) = false := by simpa using hM
      rw [hM2] at hcN
      generalize numsK x.k = m at *
      have hneg : ¬ m < 0 := by omega
      clear hq
      obtain ⟨k, b, o, ns⟩ := x
      unfold kyV txtV at *
      go_enter Tryd.func11, Tryd.ntmps11
      simp only at *
      go_wp2_with fail
      refine (hcK.out _).mono ?_
      rintro e w1 ⟨rfl, hB⟩
      replace hB : KyBox w k b o (.slice a ns.length c) w1 := hB
      obtain ⟨c0, c1, c2, c3⟩ := hB.cells
      go_wp2_with fail
      refine (hcN.out _ hB.upd).mono ?_
      rintro e w2 ⟨rfl, hu2⟩
      replace hB := hB.trans hu2 fun _ h => h.elim
      clear c0 c1 c2 c3 hu2
      obtain ⟨c0, c1, c2, c3⟩ := hB.cells
      go_wp2_with fail
      go_ret2
      exact ⟨rfl, hB.upd⟩
  · have hm := numsK_no (k := x.k) (by omega)
    rw [keyR_arg1 (fun e => hk6 ⟨(numbersB_kind e).1, (numbersB_kind e).2.1⟩)]
    rw [hm] at hcK
    clear hcN hcP
    obtain ⟨k, b, o, ns⟩ := x
    unfold kyV txtV at *
    go_enter Tryd.func11, Tryd.ntmps11
    simp only at *
    go_wp2_with fail
    refine (hcK.out _).mono ?_
    rintro e w1 ⟨rfl, hB⟩
    replace hB : KyBox w k b o (.slice a ns.length c) w1 := hB
    obtain ⟨c0, c1, c2, c3⟩ := hB.cells
    go_wp2_with fail
    go_ret2
    exact ⟨rfl, hB.upd⟩
end Go.Proofs.YtaflpabpkpfifaaDoor
