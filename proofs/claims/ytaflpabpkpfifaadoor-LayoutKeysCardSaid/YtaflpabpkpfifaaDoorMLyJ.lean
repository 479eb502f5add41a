/- The walks over ambryref21.Same, ambrylaw21.few. -/
import Derived.Test.YtaflpabpkpfifaaDoorMLyC
import Derived.Deep.QuietTactic
import Derived.BigQuiet
namespace Go.Proofs.YtaflpabpkpfifaaDoor
set_option maxRecDepth 100000
open Go.RowKit Go.Amb
set_option linter.unusedVariables false
attribute [local go_sem ↓] Go.wp_at_zero Go.wp_at_succ

def fewK (x : Ky) : Prop := x.ns.length ≤ 20 ∧ x.b.length ≤ 1000 ∧ x.o.length ≤ 1000
instance (x : Ky) : Decidable (fewK x) := by unfold fewK; infer_instance
theorem few_yes {k : Int} {b o : Str} {ns : List Int} (h1 : (ns.length : Int) ≤ 20) (h2 : (b.length : Int) ≤ 1000) (h3 : (o.length : Int) ≤ 1000) : decide (fewK ⟨k, b, o, ns⟩) = true :=
  decide_eq_true (show ns.length ≤ 20 ∧ b.length ≤ 1000 ∧ o.length ≤ 1000 by omega)
theorem few_no {k : Int} {b o : Str} {ns : List Int} (h : ¬ ((ns.length : Int) ≤ 20 ∧ (b.length : Int) ≤ 1000 ∧ (o.length : Int) ≤ 1000)) : decide (fewK ⟨k, b, o, ns⟩) = false :=
  decide_eq_false (show ¬ (ns.length ≤ 20 ∧ b.length ≤ 1000 ∧ o.length ≤ 1000) by omega)
set_option maxHeartbeats 1000000 in
theorem l21Few (x : Ky) (nv : Value) (w : World) (hN : Ints w nv x.ns) : Calls Tryd.prog 8 #[kyV x nv] w (Ret (.bool (decide (fewK x))) w) := by
  obtain ⟨a, c, rfl, hlc, hc, -⟩ := ints_at hN
  obtain ⟨k, b, o, ns⟩ := x
  unfold kyV txtV
  by_cases h1 : (ns.length : Int) ≤ 20
  · have h1d := decide_eq_true h1
    by_cases h2 : (b.length : Int) ≤ 1000
    · have h2d := decide_eq_true h2
      by_cases h3 : (o.length : Int) ≤ 1000
      · have h3d := decide_eq_true h3
        have hv := few_yes (k := k) h1 h2 h3
        rw [hv]
        go_enter Tryd.func8, Tryd.ntmps8
        go_wp2_with fail
        go_ret
        exact ⟨rfl, (Upd.refl _ _).then_alloc _⟩
      · have h3d := decide_eq_false h3
        have hv := few_no (k := k) (b := b) (o := o) (ns := ns) (fun h => h3 h.2.2)
        rw [hv]
        go_enter Tryd.func8, Tryd.ntmps8
        go_wp2_with fail
        go_ret
        exact ⟨rfl, (Upd.refl _ _).then_alloc _⟩
    · have h2d := decide_eq_false h2
      have hv := few_no (k := k) (b := b) (o := o) (ns := ns) (fun h => h2 h.2.1)
      rw [hv]
      go_enter Tryd.func8, Tryd.ntmps8
      go_wp2_with fail
      go_ret
      exact ⟨rfl, (Upd.refl _ _).then_alloc _⟩
  · have h1d := decide_eq_false h1
    have hv := few_no (k := k) (b := b) (o := o) (ns := ns) (fun h => h1 h.1)
    rw [hv]
    go_enter Tryd.func8, Tryd.ntmps8
    go_wp2_with fail
    go_ret
    exact ⟨rfl, (Upd.refl _ _).then_alloc _⟩
set_option maxHeartbeats 4000000 in
theorem q21Same (x y : Ky) (nv mv : Value) (w : World) (hN : Ints w nv x.ns) (hM : Ints w mv y.ns) : Calls Tryd.prog 16 #[kyV x nv, kyV y mv] w (Ret (.bool (decide (x = y))) w) := by
  obtain ⟨a, c, rfl, hlc, hc, hcell⟩ := ints_at hN
  obtain ⟨a2, c2, rfl, hlc2, hc2, hcell2⟩ := ints_at hM
  have hmx := hc
  have hmx2 := hc2
  unfold maxLen at hmx hmx2
  replace hcell := Lib.hid hcell
  replace hcell2 := Lib.hid hcell2
  obtain ⟨k, b, o, ns⟩ := x
  obtain ⟨k2, b2, o2, ns2⟩ := y
  unfold kyV txtV
  simp only at hcell hcell2 hlc hlc2 hN hM ⊢
  by_cases h1 : k = k2
  · have h1a : (k != k2) = false := by simp [h1]
    by_cases h2 : b = b2
    · have h2a : (b == b2) = true := by simp [h2]
      by_cases h3 : o = o2
      · have h3a : (o == o2) = true := by simp [h3]
        by_cases h4 : ns.length = ns2.length
        · have h4a : ((ns.length : Int) != (ns2.length : Int)) = false := by simp [h4]
          subst h1 h2 h3
          have hno : ∀ j (h : j < ns.length) (h' : j < ns2.length), ns[j] ≠ ns2[j] → decide ((⟨k, b, o, ns⟩ : Ky) = ⟨k, b, o, ns2⟩) = false := fun j h h' hne => by
            rw [decide_eq_false_iff_not]; intro e; injection e with e1 e2 e3 e4; subst e4; exact hne rfl
          have hyes : ns = ns2 → decide ((⟨k, b, o, ns⟩ : Ky) = ⟨k, b, o, ns2⟩) = true := fun e => by rw [e]; simp
          generalize decide ((⟨k, b, o, ns⟩ : Ky) = ⟨k, b, o, ns2⟩) = bb at *
          replace hno := Lib.hid hno
          replace hyes := Lib.hid hyes
          have h4b := Lib.hid h4
          clear h4
          go_enter Tryd.func16, Tryd.ntmps16
          go_wp2_with fail
          go_loopw [5] (fun i wr => ∃ j : Nat, j ≤ ns.length ∧ i = .int .i64 j ∧ Hid (ns.take j = ns2.take j) ∧ Upd Non ((w.alloc (.cells #[.int .i64 k, .string ⟨b.toArray⟩, .string ⟨o.toArray⟩, .slice a ns.length c] 25)).alloc (.cells #[.int .i64 k, .string ⟨b.toArray⟩, .string ⟨o.toArray⟩, .slice a2 ns2.length c2] 25)) wr) (fun i _ => ns.length - (intOf i).toNat)
          case atStart => exact ⟨0, by omega, rfl, Lib.hid rfl, Upd.refl _ _⟩
          case round =>
            obtain ⟨j, hj, rfl, heq, hu⟩ := hrel
            obtain ⟨q1, -, q2, -, -, -, hU⟩ := hu.own2 (fun _ h => h.elim)
            have c3 := q1 3
            have d3 := q2 3
            clear q1 q2
            by_cases hlt : j < ns.length
            · have hlt2 : j < ns2.length := by rw [← h4b.out]; exact hlt
              obtain ⟨g, off, rfl, c0⟩ := hcell.out j hlt
              obtain ⟨g2, off2, rfl, d0⟩ := hcell2.out j hlt2
              replace c0 := hU.cell c0 fun h => h
              replace d0 := hU.cell d0 fun h => h
              have hng := Lib.hid (hno.out j hlt hlt2)
              have hsn : Hid (ns[j] = ns2[j] → ns.take (j + 1) = ns2.take (j + 1)) := Lib.hid (fun e => by rw [take_snoc ns j hlt, take_snoc ns2 j hlt2, heq.out, e])
              generalize ns[j] = n at *
              generalize ns2[j] = n2 at *
              by_cases hn : n = n2
              · subst hn
                go_wp2_with fail
                go_quiet (fail)
                go_wp2_with fail
                go_roundw
                case rel => exact ⟨j + 1, by omega, by go_num, Lib.hid (by first | exact hsn.out rfl | exact hsn.out trivial), hu.then_drewN _⟩
                case measure => simp [intOf]; omega
              · have hna : (n != n2) = true := by simp [hn]
                obtain rfl := hng.out hn
                go_wp2_with fail
                go_quiet (fail)
                go_wp2_with fail
                go_ret
                exact ⟨rfl, hU.then_drewN _⟩
            · obtain rfl : j = ns.length := by omega
              have h5 : ns = ns2 := by
                have := heq.out
                rw [List.take_length] at this
                conv at this => rhs; rw [h4b.out]
                rw [List.take_length] at this
                exact this
              obtain rfl := hyes.out h5
              replace h5 := Lib.hid h5
              go_wp2_with fail
              go_ret
              exact ⟨rfl, hU⟩
        · have h4a : ((ns.length : Int) != (ns2.length : Int)) = true := by simp; omega
          have hq : decide ((⟨k, b, o, ns⟩ : Ky) = ⟨k2, b2, o2, ns2⟩) = false := by rw [decide_eq_false_iff_not]; intro e; injection e with e1 e2 e3 e4; exact h4 (by rw [e4])
          rw [hq]
          go_enter Tryd.func16, Tryd.ntmps16
          go_wp2_with fail
          go_ret
          exact ⟨rfl, ((Upd.refl _ _).then_alloc _).then_alloc _⟩
      · have h3a : (o == o2) = false := by simp [h3]
        have hq : decide ((⟨k, b, o, ns⟩ : Ky) = ⟨k2, b2, o2, ns2⟩) = false := by rw [decide_eq_false_iff_not]; intro e; injection e with e1 e2 e3 e4; exact h3 e3
        rw [hq]
        go_enter Tryd.func16, Tryd.ntmps16
        go_wp2_with fail
        go_ret
        exact ⟨rfl, ((Upd.refl _ _).then_alloc _).then_alloc _⟩
    · have h2a : (b == b2) = false := by simp [h2]
      have hq : decide ((⟨k, b, o, ns⟩ : Ky) = ⟨k2, b2, o2, ns2⟩) = false := by rw [decide_eq_false_iff_not]; intro e; injection e with e1 e2 e3 e4; exact h2 e2
      rw [hq]
      go_enter Tryd.func16, Tryd.ntmps16
      go_wp2_with fail
      go_ret
      exact ⟨rfl, ((Upd.refl _ _).then_alloc _).then_alloc _⟩
  · have h1a : (k != k2) = true := by simp [h1]
    have hq : decide ((⟨k, b, o, ns⟩ : Ky) = ⟨k2, b2, o2, ns2⟩) = false := by rw [decide_eq_false_iff_not]; intro e; injection e with e1 e2 e3 e4; exact h1 e1
    rw [hq]
    go_enter Tryd.func16, Tryd.ntmps16
    go_wp2_with fail
    go_ret
    exact ⟨rfl, ((Upd.refl _ _).then_alloc _).then_alloc _⟩
end Go.Proofs.YtaflpabpkpfifaaDoor
