/- The walk over ambrylaw21.begins. -/
import Derived.Test.YtaflpabpkpfifaaDoorLyJ
import Derived.Test.YtaflpabpkpfifaaDoorLyQ
namespace Go.Proofs.YtaflpabpkpfifaaDoor
set_option maxRecDepth 100000
open Go.RowKit Go.Amb
set_option linter.unusedVariables false
attribute [local go_sem ↓] Go.wp_at_zero Go.wp_at_succ

set_option maxHeartbeats 4000000 in
theorem l21Begins (x y : Ky) (nv mv : Value) (w : World) (hN : Ints w nv x.ns) (hM : Ints w mv y.ns) : Calls Tryd.prog 21 #[kyV x nv, kyV y mv] w (Ret (.bool (decide (BegK x y))) w) := by
  obtain ⟨a, c, rfl, hlc, hc, hcell⟩ := ints_at hN
  obtain ⟨a2, c2, rfl, hlc2, hc2, hcell2⟩ := ints_at hM
  have hmx := hc
  have hmx2 := hc2
  unfold maxLen at hmx hmx2
  replace hcell := Lib.hid hcell
  replace hcell2 := Lib.hid hcell2
  obtain ⟨k, b, o, ns⟩ := x
  obtain ⟨k2, b2, o2, ns2⟩ := y
  unfold kyV txtV
  simp only at hcell hcell2 hlc hlc2 hN hM ⊢
  by_cases h1 : k = k2
  · subst h1
    cases b with
    | nil =>
      cases o with
      | nil =>
        by_cases h4 : ns.length ≤ ns2.length
        · have h4a : ¬ (ns2.length : Int) < (ns.length : Int) := by omega
          have h4b : ¬ ns2.length < ns.length := by omega
          have hno : ∀ j (h : j < ns.length) (h' : j < ns2.length), ns[j] ≠ ns2[j] → decide (BegK (⟨k, [], [], ns⟩ : Ky) (⟨k, b2, o2, ns2⟩ : Ky)) = false := fun j h h' hne => by
            rw [decide_eq_false_iff_not]; rintro ⟨e1, e2, e3, e4, e5⟩
            simp only at e5
            apply hne
            have := congrArg (fun l => l[j]?) e5
            simp only [List.getElem?_eq_getElem h] at this
            rw [List.getElem?_eq_getElem (by rw [List.length_take]; omega)] at this
            simpa using this
          have hyes : ns = ns2.take ns.length → decide (BegK (⟨k, [], [], ns⟩ : Ky) (⟨k, b2, o2, ns2⟩ : Ky)) = true := fun e => decide_eq_true ⟨rfl, (.inl rfl), (.inl rfl), h4, e⟩
          generalize decide (BegK (⟨k, [], [], ns⟩ : Ky) (⟨k, b2, o2, ns2⟩ : Ky)) = bb at *
          replace hno := Lib.hid hno
          replace hyes := Lib.hid hyes
          go_enter Tryd.func21, Tryd.ntmps21
          go_wp2_with fail
          go_loopw [5] (fun i wr => ∃ j : Nat, j ≤ ns.length ∧ i = .int .i64 j ∧ Hid (ns.take j = ns2.take j) ∧ Upd Non ((w.alloc (.cells #[.int .i64 k, .string ⟨#[]⟩, .string ⟨#[]⟩, .slice a ns.length c] 25)).alloc (.cells #[.int .i64 k, .string ⟨b2.toArray⟩, .string ⟨o2.toArray⟩, .slice a2 ns2.length c2] 25)) wr) (fun i _ => ns.length - (intOf i).toNat)
          case atStart => exact ⟨0, by omega, rfl, Lib.hid rfl, Upd.refl _ _⟩
          case round =>
            obtain ⟨j, hj, rfl, heq, hu⟩ := hrel
            obtain ⟨q1, -, q2, -, -, -, hU⟩ := hu.own2 (fun _ h => h.elim)
            have c3 := q1 3
            have d3 := q2 3
            clear q1 q2
            by_cases hlt : j < ns.length
            · have hlt2 : j < ns2.length := by omega
              obtain ⟨g, off, rfl, c0⟩ := hcell.out j hlt
              obtain ⟨g2, off2, rfl, d0⟩ := hcell2.out j hlt2
              replace c0 := hU.cell c0 fun h => h
              replace d0 := hU.cell d0 fun h => h
              have hng := Lib.hid (hno.out j hlt hlt2)
              have hsn : Hid (ns[j] = ns2[j] → ns.take (j + 1) = ns2.take (j + 1)) := Lib.hid (fun e => by rw [take_snoc ns j hlt, take_snoc ns2 j hlt2, heq.out, e])
              generalize ns[j] = n at *
              generalize ns2[j] = n2 at *
              by_cases hn : n = n2
              · subst hn
                go_wp2_with fail
                go_quiet (fail)
                go_wp2_with fail
                go_roundw
                case rel => exact ⟨j + 1, by omega, by go_num, Lib.hid (by first | exact hsn.out rfl | exact hsn.out trivial), hu.then_drewN _⟩
                case measure => simp [intOf]; omega
              · have hna : (n != n2) = true := by simp [hn]
                obtain rfl := hng.out hn
                go_wp2_with fail
                go_quiet (fail)
                go_wp2_with fail
                go_ret
                exact ⟨rfl, hU.then_drewN _⟩
            · obtain rfl : j = ns.length := by omega
              have h5 := heq.out
              rw [List.take_length] at h5
              obtain rfl := hyes.out h5
              replace h5 := Lib.hid h5
              go_wp2_with fail
              go_ret
              exact ⟨rfl, hU⟩
        · have h4a : (ns2.length : Int) < (ns.length : Int) := by omega
          have h4b : ns2.length < ns.length := by omega
          have hq : decide (BegK (⟨k, [], [], ns⟩ : Ky) (⟨k, b2, o2, ns2⟩ : Ky)) = false := by rw [decide_eq_false_iff_not]; rintro ⟨e1, e2, e3, e4, e5⟩; simp only at e1 e2 e3 e4 e5; exact h4 e4
          rw [hq]
          go_enter Tryd.func21, Tryd.ntmps21
          go_wp2_with fail
          go_ret
          exact ⟨rfl, ((Upd.refl _ _).then_alloc _).then_alloc _⟩
      | cons o0 or =>
        by_cases h3 : (o0 :: or : Str) = o2
        · subst h3
          by_cases h4 : ns.length ≤ ns2.length
          · have h4a : ¬ (ns2.length : Int) < (ns.length : Int) := by omega
            have h4b : ¬ ns2.length < ns.length := by omega
            have hno : ∀ j (h : j < ns.length) (h' : j < ns2.length), ns[j] ≠ ns2[j] → decide (BegK (⟨k, [], o0 :: or, ns⟩ : Ky) (⟨k, b2, o0 :: or, ns2⟩ : Ky)) = false := fun j h h' hne => by
              rw [decide_eq_false_iff_not]; rintro ⟨e1, e2, e3, e4, e5⟩
              simp only at e5
              apply hne
              have := congrArg (fun l => l[j]?) e5
              simp only [List.getElem?_eq_getElem h] at this
              rw [List.getElem?_eq_getElem (by rw [List.length_take]; omega)] at this
              simpa using this
            have hyes : ns = ns2.take ns.length → decide (BegK (⟨k, [], o0 :: or, ns⟩ : Ky) (⟨k, b2, o0 :: or, ns2⟩ : Ky)) = true := fun e => decide_eq_true ⟨rfl, (.inl rfl), (.inr rfl), h4, e⟩
            generalize decide (BegK (⟨k, [], o0 :: or, ns⟩ : Ky) (⟨k, b2, o0 :: or, ns2⟩ : Ky)) = bb at *
            replace hno := Lib.hid hno
            replace hyes := Lib.hid hyes
            go_enter Tryd.func21, Tryd.ntmps21
            go_wp2_with fail
            go_loopw [5] (fun i wr => ∃ j : Nat, j ≤ ns.length ∧ i = .int .i64 j ∧ Hid (ns.take j = ns2.take j) ∧ Upd Non ((w.alloc (.cells #[.int .i64 k, .string ⟨#[]⟩, .string ⟨(o0 :: or).toArray⟩, .slice a ns.length c] 25)).alloc (.cells #[.int .i64 k, .string ⟨b2.toArray⟩, .string ⟨(o0 :: or).toArray⟩, .slice a2 ns2.length c2] 25)) wr) (fun i _ => ns.length - (intOf i).toNat)
            case atStart => exact ⟨0, by omega, rfl, Lib.hid rfl, Upd.refl _ _⟩
            case round =>
              obtain ⟨j, hj, rfl, heq, hu⟩ := hrel
              obtain ⟨q1, -, q2, -, -, -, hU⟩ := hu.own2 (fun _ h => h.elim)
              have c3 := q1 3
              have d3 := q2 3
              clear q1 q2
              by_cases hlt : j < ns.length
              · have hlt2 : j < ns2.length := by omega
                obtain ⟨g, off, rfl, c0⟩ := hcell.out j hlt
                obtain ⟨g2, off2, rfl, d0⟩ := hcell2.out j hlt2
                replace c0 := hU.cell c0 fun h => h
                replace d0 := hU.cell d0 fun h => h
                have hng := Lib.hid (hno.out j hlt hlt2)
                have hsn : Hid (ns[j] = ns2[j] → ns.take (j + 1) = ns2.take (j + 1)) := Lib.hid (fun e => by rw [take_snoc ns j hlt, take_snoc ns2 j hlt2, heq.out, e])
                generalize ns[j] = n at *
                generalize ns2[j] = n2 at *
                by_cases hn : n = n2
                · subst hn
                  go_wp2_with fail
                  go_quiet (fail)
                  go_wp2_with fail
                  go_roundw
                  case rel => exact ⟨j + 1, by omega, by go_num, Lib.hid (by first | exact hsn.out rfl | exact hsn.out trivial), hu.then_drewN _⟩
                  case measure => simp [intOf]; omega
                · have hna : (n != n2) = true := by simp [hn]
                  obtain rfl := hng.out hn
                  go_wp2_with fail
                  go_quiet (fail)
                  go_wp2_with fail
                  go_ret
                  exact ⟨rfl, hU.then_drewN _⟩
              · obtain rfl : j = ns.length := by omega
                have h5 := heq.out
                rw [List.take_length] at h5
                obtain rfl := hyes.out h5
                replace h5 := Lib.hid h5
                go_wp2_with fail
                go_ret
                exact ⟨rfl, hU⟩
          · have h4a : (ns2.length : Int) < (ns.length : Int) := by omega
            have h4b : ns2.length < ns.length := by omega
            have hq : decide (BegK (⟨k, [], o0 :: or, ns⟩ : Ky) (⟨k, b2, o0 :: or, ns2⟩ : Ky)) = false := by rw [decide_eq_false_iff_not]; rintro ⟨e1, e2, e3, e4, e5⟩; simp only at e1 e2 e3 e4 e5; exact h4 e4
            rw [hq]
            go_enter Tryd.func21, Tryd.ntmps21
            go_wp2_with fail
            go_ret
            exact ⟨rfl, ((Upd.refl _ _).then_alloc _).then_alloc _⟩
        · have h3a : ((o0 :: or : Str) == o2) = false := by simpa using h3
          have hq : decide (BegK (⟨k, [], o0 :: or, ns⟩ : Ky) (⟨k, b2, o2, ns2⟩ : Ky)) = false := by rw [decide_eq_false_iff_not]; rintro ⟨e1, e2, e3, e4, e5⟩; simp only at e1 e2 e3 e4 e5; exact e3.elim (fun e => by cases e) h3
          rw [hq]
          go_enter Tryd.func21, Tryd.ntmps21
          go_wp2_with fail
          go_ret
          exact ⟨rfl, ((Upd.refl _ _).then_alloc _).then_alloc _⟩
    | cons b0 br =>
      by_cases h2 : (b0 :: br : Str) = b2
      · subst h2
        cases o with
        | nil =>
          by_cases h4 : ns.length ≤ ns2.length
          · have h4a : ¬ (ns2.length : Int) < (ns.length : Int) := by omega
            have h4b : ¬ ns2.length < ns.length := by omega
            have hno : ∀ j (h : j < ns.length) (h' : j < ns2.length), ns[j] ≠ ns2[j] → decide (BegK (⟨k, b0 :: br, [], ns⟩ : Ky) (⟨k, b0 :: br, o2, ns2⟩ : Ky)) = false := fun j h h' hne => by
              rw [decide_eq_false_iff_not]; rintro ⟨e1, e2, e3, e4, e5⟩
              simp only at e5
              apply hne
              have := congrArg (fun l => l[j]?) e5
              simp only [List.getElem?_eq_getElem h] at this
              rw [List.getElem?_eq_getElem (by rw [List.length_take]; omega)] at this
              simpa using this
            have hyes : ns = ns2.take ns.length → decide (BegK (⟨k, b0 :: br, [], ns⟩ : Ky) (⟨k, b0 :: br, o2, ns2⟩ : Ky)) = true := fun e => decide_eq_true ⟨rfl, (.inr rfl), (.inl rfl), h4, e⟩
            generalize decide (BegK (⟨k, b0 :: br, [], ns⟩ : Ky) (⟨k, b0 :: br, o2, ns2⟩ : Ky)) = bb at *
            replace hno := Lib.hid hno
            replace hyes := Lib.hid hyes
            go_enter Tryd.func21, Tryd.ntmps21
            go_wp2_with fail
            go_loopw [5] (fun i wr => ∃ j : Nat, j ≤ ns.length ∧ i = .int .i64 j ∧ Hid (ns.take j = ns2.take j) ∧ Upd Non ((w.alloc (.cells #[.int .i64 k, .string ⟨(b0 :: br).toArray⟩, .string ⟨#[]⟩, .slice a ns.length c] 25)).alloc (.cells #[.int .i64 k, .string ⟨(b0 :: br).toArray⟩, .string ⟨o2.toArray⟩, .slice a2 ns2.length c2] 25)) wr) (fun i _ => ns.length - (intOf i).toNat)
            case atStart => exact ⟨0, by omega, rfl, Lib.hid rfl, Upd.refl _ _⟩
            case round =>
              obtain ⟨j, hj, rfl, heq, hu⟩ := hrel
              obtain ⟨q1, -, q2, -, -, -, hU⟩ := hu.own2 (fun _ h => h.elim)
              have c3 := q1 3
              have d3 := q2 3
              clear q1 q2
              by_cases hlt : j < ns.length
              · have hlt2 : j < ns2.length := by omega
                obtain ⟨g, off, rfl, c0⟩ := hcell.out j hlt
                obtain ⟨g2, off2, rfl, d0⟩ := hcell2.out j hlt2
                replace c0 := hU.cell c0 fun h => h
                replace d0 := hU.cell d0 fun h => h
                have hng := Lib.hid (hno.out j hlt hlt2)
                have hsn : Hid (ns[j] = ns2[j] → ns.take (j + 1) = ns2.take (j + 1)) := Lib.hid (fun e => by rw [take_snoc ns j hlt, take_snoc ns2 j hlt2, heq.out, e])
                generalize ns[j] = n at *
                generalize ns2[j] = n2 at *
                by_cases hn : n = n2
                · subst hn
                  go_wp2_with fail
                  go_quiet (fail)
                  go_wp2_with fail
                  go_roundw
                  case rel => exact ⟨j + 1, by omega, by go_num, Lib.hid (by first | exact hsn.out rfl | exact hsn.out trivial), hu.then_drewN _⟩
                  case measure => simp [intOf]; omega
                · have hna : (n != n2) = true := by simp [hn]
                  obtain rfl := hng.out hn
                  go_wp2_with fail
                  go_quiet (fail)
                  go_wp2_with fail
                  go_ret
                  exact ⟨rfl, hU.then_drewN _⟩
              · obtain rfl : j = ns.length := by omega
                have h5 := heq.out
                rw [List.take_length] at h5
                obtain rfl := hyes.out h5
                replace h5 := Lib.hid h5
                go_wp2_with fail
                go_ret
                exact ⟨rfl, hU⟩
          · have h4a : (ns2.length : Int) < (ns.length : Int) := by omega
            have h4b : ns2.length < ns.length := by omega
            have hq : decide (BegK (⟨k, b0 :: br, [], ns⟩ : Ky) (⟨k, b0 :: br, o2, ns2⟩ : Ky)) = false := by rw [decide_eq_false_iff_not]; rintro ⟨e1, e2, e3, e4, e5⟩; simp only at e1 e2 e3 e4 e5; exact h4 e4
            rw [hq]
            go_enter Tryd.func21, Tryd.ntmps21
            go_wp2_with fail
            go_ret
            exact ⟨rfl, ((Upd.refl _ _).then_alloc _).then_alloc _⟩
        | cons o0 or =>
          by_cases h3 : (o0 :: or : Str) = o2
          · subst h3
            by_cases h4 : ns.length ≤ ns2.length
            · have h4a : ¬ (ns2.length : Int) < (ns.length : Int) := by omega
              have h4b : ¬ ns2.length < ns.length := by omega
              have hno : ∀ j (h : j < ns.length) (h' : j < ns2.length), ns[j] ≠ ns2[j] → decide (BegK (⟨k, b0 :: br, o0 :: or, ns⟩ : Ky) (⟨k, b0 :: br, o0 :: or, ns2⟩ : Ky)) = false := fun j h h' hne => by
                rw [decide_eq_false_iff_not]; rintro ⟨e1, e2, e3, e4, e5⟩
                simp only at e5
                apply hne
                have := congrArg (fun l => l[j]?) e5
                simp only [List.getElem?_eq_getElem h] at this
                rw [List.getElem?_eq_getElem (by rw [List.length_take]; omega)] at this
                simpa using this
              have hyes : ns = ns2.take ns.length → decide (BegK (⟨k, b0 :: br, o0 :: or, ns⟩ : Ky) (⟨k, b0 :: br, o0 :: or, ns2⟩ : Ky)) = true := fun e => decide_eq_true ⟨rfl, (.inr rfl), (.inr rfl), h4, e⟩
              generalize decide (BegK (⟨k, b0 :: br, o0 :: or, ns⟩ : Ky) (⟨k, b0 :: br, o0 :: or, ns2⟩ : Ky)) = bb at *
              replace hno := Lib.hid hno
              replace hyes := Lib.hid hyes
              go_enter Tryd.func21, Tryd.ntmps21
              go_wp2_with fail
              go_loopw [5] (fun i wr => ∃ j : Nat, j ≤ ns.length ∧ i = .int .i64 j ∧ Hid (ns.take j = ns2.take j) ∧ Upd Non ((w.alloc (.cells #[.int .i64 k, .string ⟨(b0 :: br).toArray⟩, .string ⟨(o0 :: or).toArray⟩, .slice a ns.length c] 25)).alloc (.cells #[.int .i64 k, .string ⟨(b0 :: br).toArray⟩, .string ⟨(o0 :: or).toArray⟩, .slice a2 ns2.length c2] 25)) wr) (fun i _ => ns.length - (intOf i).toNat)
              case atStart => exact ⟨0, by omega, rfl, Lib.hid rfl, Upd.refl _ _⟩
              case round =>
                obtain ⟨j, hj, rfl, heq, hu⟩ := hrel
                obtain ⟨q1, -, q2, -, -, -, hU⟩ := hu.own2 (fun _ h => h.elim)
                have c3 := q1 3
                have d3 := q2 3
                clear q1 q2
                by_cases hlt : j < ns.length
                · have hlt2 : j < ns2.length := by omega
                  obtain ⟨g, off, rfl, c0⟩ := hcell.out j hlt
                  obtain ⟨g2, off2, rfl, d0⟩ := hcell2.out j hlt2
                  replace c0 := hU.cell c0 fun h => h
                  replace d0 := hU.cell d0 fun h => h
                  have hng := Lib.hid (hno.out j hlt hlt2)
                  have hsn : Hid (ns[j] = ns2[j] → ns.take (j + 1) = ns2.take (j + 1)) := Lib.hid (fun e => by rw [take_snoc ns j hlt, take_snoc ns2 j hlt2, heq.out, e])
                  generalize ns[j] = n at *
                  generalize ns2[j] = n2 at *
                  by_cases hn : n = n2
                  · subst hn
                    go_wp2_with fail
                    go_quiet (fail)
                    go_wp2_with fail
                    go_roundw
                    case rel => exact ⟨j + 1, by omega, by go_num, Lib.hid (by first | exact hsn.out rfl | exact hsn.out trivial), hu.then_drewN _⟩
                    case measure => simp [intOf]; omega
                  · have hna : (n != n2) = true := by simp [hn]
                    obtain rfl := hng.out hn
                    go_wp2_with fail
                    go_quiet (fail)
                    go_wp2_with fail
                    go_ret
                    exact ⟨rfl, hU.then_drewN _⟩
                · obtain rfl : j = ns.length := by omega
                  have h5 := heq.out
                  rw [List.take_length] at h5
                  obtain rfl := hyes.out h5
                  replace h5 := Lib.hid h5
                  go_wp2_with fail
                  go_ret
                  exact ⟨rfl, hU⟩
            · have h4a : (ns2.length : Int) < (ns.length : Int) := by omega
              have h4b : ns2.length < ns.length := by omega
              have hq : decide (BegK (⟨k, b0 :: br, o0 :: or, ns⟩ : Ky) (⟨k, b0 :: br, o0 :: or, ns2⟩ : Ky)) = false := by rw [decide_eq_false_iff_not]; rintro ⟨e1, e2, e3, e4, e5⟩; simp only at e1 e2 e3 e4 e5; exact h4 e4
              rw [hq]
              go_enter Tryd.func21, Tryd.ntmps21
              go_wp2_with fail
              go_ret
              exact ⟨rfl, ((Upd.refl _ _).then_alloc _).then_alloc _⟩
          · have h3a : ((o0 :: or : Str) == o2) = false := by simpa using h3
            have hq : decide (BegK (⟨k, b0 :: br, o0 :: or, ns⟩ : Ky) (⟨k, b0 :: br, o2, ns2⟩ : Ky)) = false := by rw [decide_eq_false_iff_not]; rintro ⟨e1, e2, e3, e4, e5⟩; simp only at e1 e2 e3 e4 e5; exact e3.elim (fun e => by cases e) h3
            rw [hq]
            go_enter Tryd.func21, Tryd.ntmps21
            go_wp2_with fail
            go_ret
            exact ⟨rfl, ((Upd.refl _ _).then_alloc _).then_alloc _⟩
      · have h2a : ((b0 :: br : Str) == b2) = false := by simpa using h2
        have hq : decide (BegK (⟨k, b0 :: br, o, ns⟩ : Ky) (⟨k, b2, o2, ns2⟩ : Ky)) = false := by rw [decide_eq_false_iff_not]; rintro ⟨e1, e2, e3, e4, e5⟩; simp only at e1 e2 e3 e4 e5; exact e2.elim (fun e => by cases e) h2
        rw [hq]
        go_enter Tryd.func21, Tryd.ntmps21
        go_wp2_with fail
        go_ret
        exact ⟨rfl, ((Upd.refl _ _).then_alloc _).then_alloc _⟩
  · have h1a : (k != k2) = true := by simp [h1]
    have hq : decide (BegK (⟨k, b, o, ns⟩ : Ky) (⟨k2, b2, o2, ns2⟩ : Ky)) = false := by rw [decide_eq_false_iff_not]; rintro ⟨e1, e2, e3, e4, e5⟩; simp only at e1 e2 e3 e4 e5; exact h1 e1
    rw [hq]
    go_enter Tryd.func21, Tryd.ntmps21
    go_wp2_with fail
    go_ret
    exact ⟨rfl, ((Upd.refl _ _).then_alloc _).then_alloc _⟩
end Go.Proofs.YtaflpabpkpfifaaDoor
