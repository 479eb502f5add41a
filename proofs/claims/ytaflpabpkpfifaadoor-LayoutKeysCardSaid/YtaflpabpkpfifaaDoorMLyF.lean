/- The walks over ambryref21: numbers, parts, bytes, Key, Span. -/
import Derived.Test.YtaflpabpkpfifaaDoorMLyE
namespace Go.Proofs.YtaflpabpkpfifaaDoor
set_option maxRecDepth 100000
open Go.RowKit Go.Amb
set_option linter.unusedVariables false
attribute [local go_sem ↓] Go.wp_at_zero Go.wp_at_succ

def numbersM (x : Ky) (m : Int) : Bool := x.ns.all (fun n => decide (0 ≤ n)) && decide ((x.ns.length : Int) ≤ m)
theorem numbersM_neg {x : Ky} (m : Int) (j : Nat) (hj : j < x.ns.length) (h0 : x.ns[j] < 0) : numbersM x m = false := by
  rw [Bool.eq_false_iff]
  intro h
  unfold numbersM at h
  rw [Bool.and_eq_true, List.all_eq_true] at h
  have := of_decide_eq_true (h.1 _ (List.getElem_mem hj))
  omega
set_option maxHeartbeats 1000000 in
theorem q21Numbers (x : Ky) (nv : Value) (m : Int) (w : World) (hN : Ints w nv x.ns) : Calls Tryd.prog 34 #[kyV x nv, .int .i64 m] w (Ret (.bool (numbersM x m)) w) := by
  obtain ⟨a, c, rfl, hlc, hc, hcell⟩ := ints_at hN
  have hmx := hc
  unfold maxLen at hmx
  replace hcell := Lib.hid hcell
  have hneg := Lib.hid (@numbersM_neg x m)
  obtain ⟨k, b, o, ns⟩ := x
  unfold kyV txtV
  simp only at hcell hneg hlc hN ⊢
  generalize hbb : numbersM ⟨k, b, o, ns⟩ m = bb at *
  go_enter Tryd.func34, Tryd.ntmps34
  go_wp2_with fail
  go_loopw [5] (fun i wr => ∃ j : Nat, j ≤ ns.length ∧ i = .int .i64 j ∧ Hid (∀ n ∈ ns.take j, 0 ≤ n) ∧ KyBox w k b o (.slice a ns.length c) wr) (fun i _ => ns.length - (intOf i).toNat)
  case atStart => exact ⟨0, by omega, rfl, Lib.hid (by simp), Upd.refl _ _⟩
  case round =>
    obtain ⟨j, hj, rfl, hnn, hu⟩ := hrel
    obtain ⟨k0, k1, k2, k3⟩ := hu.cells
    have hU := hu.upd
    by_cases hlt : j < ns.length
    · obtain ⟨g, off, rfl, c0⟩ := hcell.out j hlt
      replace c0 := hu.cell c0
      have hng := Lib.hid (hneg.out j hlt)
      have htk := Lib.hid (nonneg_take hnn.out hlt)
      generalize ns[j] = n at *
      by_cases h0 : n < 0
      · replace hng := hng.out h0
        go_wp2_with fail
        go_ret
        exact ⟨by rw [hng]; rfl, hU⟩
      · go_wp2_with fail
        go_roundw
        case rel => exact ⟨j + 1, by omega, by go_num, Lib.hid (htk.out (by omega)), hu⟩
        case measure => simp [intOf]; omega
    · obtain rfl : j = ns.length := by omega
      rw [List.take_length] at hnn
      have hq : bb = decide ((ns.length : Int) ≤ m) := by
        rw [← hbb]
        unfold numbersM
        rw [List.all_eq_true.2 (fun n hn => decide_eq_true (hnn.out n hn)), Bool.true_and]
      replace hq := Lib.hid hq
      go_wp2_with fail
      go_ret
      exact ⟨by rw [hq.out]; rfl, hU⟩

/-- A slice of parts is answered. -/
def PartsRet (xs : List Part) (w : World) (e : Ending) (w' : World) : Prop := ∃ v, e = .returned v ∧ Parts w' v xs ∧ Upd Non w w'
set_option maxHeartbeats 4000000 in
theorem q21Parts (x : Ky) (nv : Value) (w : World) (hk : 1 ≤ x.k ∧ x.k ≤ 6) (hnl : x.ns.length ≤ 3) (hN : Ints w nv x.ns) :
    Calls Tryd.prog 38 #[kyV x nv] w (PartsRet (partsK x) w) := by
  obtain ⟨a, c, rfl, hlc, hc, hcell⟩ := ints_at hN
  have hmx := hc
  unfold maxLen at hmx
  replace hcell := Lib.hid hcell
  have hi2 := Lib.hid (@info_partM)
  have hsub := letter_sub x.k hk
  have hpk := Lib.hid (partsTo_two x)
  obtain ⟨k, b, o, ns⟩ := x
  unfold kyV
  simp only at hcell hlc hk hnl hsub hpk ⊢
  rw [← hpk.out]
  clear hpk
  unfold txtV
  have hB0 : KyBox w k b o (.slice a ns.length c) (w.alloc (.cells #[.int .i64 k, .string ⟨b.toArray⟩, .string ⟨o.toArray⟩, .slice a ns.length c] 25)) := Upd.refl _ _
  have ho0 : PP ((w.alloc (.cells #[.int .i64 k, .string ⟨b.toArray⟩, .string ⟨o.toArray⟩, .slice a ns.length c] 25)).alloc (.cells #[.int .i64 1, .int .i64 0, .string ⟨#[letterK k]⟩] 81)) (w.heap.size + 1) (.slice (some ⟨w.heap.size + 1, 0, none⟩) 1 1) (partsTo k [] []) := by
    have := World.ownsRow_lit (base := w.heap.size + 1) (size := 3) (e := 81) (w.alloc (.cells #[.int .i64 k, .string ⟨b.toArray⟩, .string ⟨o.toArray⟩, .slice a ns.length c] 25)) #[.int .i64 1, .int .i64 0, .string ⟨#[letterK k]⟩] 1 (by simp) (by decide) rfl
    rw [show (w.alloc (.cells #[.int .i64 k, .string ⟨b.toArray⟩, .string ⟨o.toArray⟩, .slice a ns.length c] 25)).heap.size = w.heap.size + 1 by simp] at this
    exact this
  have hle0 := partsTo_le k [] []
  simp only [List.length_nil] at hle0
  generalize hL : letterK k = L at *
  go_enter Tryd.func38, Tryd.ntmps38
  cases b with
  | nil =>
    cases o with
    | nil =>
      go_wp2_with fail
      have hoS : PP _ _ _ (partsTo k [[], []] []) := ho0
      have hBS := hB0.alloc (.cells #[.int .i64 1, .int .i64 0, .string ⟨#[L]⟩] 81)
      clear ho0 hB0
      go_loopw [3, 4] (fun pv i wr => ∃ j : Nat, j ≤ ns.length ∧ i = .int .i64 j ∧ PP wr (w.heap.size + 1) pv (partsTo k [[], []] (ns.take j)) ∧ KyBox w k [] [] (.slice a ns.length c) wr) (fun _ i _ => ns.length - (intOf i).toNat)
      case atStart => exact ⟨0, by omega, rfl, hoS, hBS⟩
      case round =>
        clear hoS hBS
        obtain ⟨j, hj, rfl, ho, hB⟩ := hrel
        obtain ⟨c0, c1, c2, c3⟩ := hB.cells
        have hsz := hB.size
        have hle := partsTo_le k [[], []] (ns.take j)
        rw [List.length_take] at hle
        simp only [List.length_cons, List.length_nil] at hle
        by_cases hlt : j < ns.length
        · obtain ⟨g, off, rfl, d0⟩ := hcell.out j hlt
          replace d0 := hB.cell d0
          have ht := Lib.hid (take_snoc ns j hlt)
          have hsn := Lib.hid (partsTo_num k [[], []] (ns.take j) ns[j])
          generalize ns[j] = n at *
          have e0 := fun x => ((hB.alloc x).cells).1
          by_cases hk2 : k = 2
          · have hkb : (k == 2) = true := by simp [hk2]
            have hkp : Hid (numPt k n = ⟨3, n, []⟩) := Lib.hid (by rw [hk2]; rfl)
            replace hk2 := Lib.hid hk2
            go_wp2_with (at_builtin; go_must (refine wpList_app1n rfl _ _ 74 rfl (w.heap.size + 1) 81 (.agg #[.int .i64 0, .int .i64 0, .string ⟨#[]⟩]) 3 32 Tryd.underlying74 hi2.out rfl _ _ _ rfl (ho.alloc _) [.int .i64 3, .int .i64 n, .string ⟨#[]⟩] (wr.heap.size + 1) rfl (by first | rfl | simp) rfl (pcs_oneM [⟨3, n, []⟩]) (by unfold maxLen; omega) (by omega) (by first | omega | (simp <;> omega)) ?_))
            intro v3 w3 ho3 hu3 hf3
            have ho3 : PP w3 (w.heap.size + 1) v3 _ := own_partsM (l' := [⟨3, n, []⟩]) ho3 rfl
            have hB3 := (hB.alloc _).trans hu3 fun j hj => own_ge ho hj
            clear e0
            go_wp2_with fail
            go_roundw
            case rel => exact ⟨j + 1, by omega, by go_num, by rw [ht.out, hsn.out, hkp.out]; exact ho3, hB3⟩
            case measure => simp [intOf]; omega
          · have hkb : (k == 2) = false := by simp [hk2]
            have hkp : Hid (numPt k n = ⟨2, n, []⟩) := Lib.hid (by unfold numPt; rw [if_neg hk2])
            replace hk2 := Lib.hid hk2
            go_wp2_with (at_builtin; go_must (refine wpList_app1n rfl _ _ 74 rfl (w.heap.size + 1) 81 (.agg #[.int .i64 0, .int .i64 0, .string ⟨#[]⟩]) 3 32 Tryd.underlying74 hi2.out rfl _ _ _ rfl (ho.alloc _) [.int .i64 2, .int .i64 n, .string ⟨#[]⟩] (wr.heap.size + 1) rfl (by first | rfl | simp) rfl (pcs_oneM [⟨2, n, []⟩]) (by unfold maxLen; omega) (by omega) (by first | omega | (simp <;> omega)) ?_))
            intro v3 w3 ho3 hu3 hf3
            have ho3 : PP w3 (w.heap.size + 1) v3 _ := own_partsM (l' := [⟨2, n, []⟩]) ho3 rfl
            have hB3 := (hB.alloc _).trans hu3 fun j hj => own_ge ho hj
            clear e0
            go_wp2_with fail
            go_roundw
            case rel => exact ⟨j + 1, by omega, by go_num, by rw [ht.out, hsn.out, hkp.out]; exact ho3, hB3⟩
            case measure => simp [intOf]; omega
        · obtain rfl : j = ns.length := by omega
          rw [List.take_length] at ho
          go_wp2_with fail
          go_ret
          exact ⟨_, rfl, has_of_owns ho, hB.upd⟩
    | cons o0 or =>
      have hsn := partsTo_txt k [[]] (o0 :: or) (by simp)
      go_wp2_with (at_builtin; go_must (refine wpList_app1n rfl _ _ 74 rfl (w.heap.size + 1) 81 (.agg #[.int .i64 0, .int .i64 0, .string ⟨#[]⟩]) 3 32 Tryd.underlying74 hi2.out rfl _ _ _ rfl ho0 [.int .i64 1, .int .i64 0, .string ⟨(o0 :: or).toArray⟩] (w.heap.size + 2) rfl (by first | rfl | simp) rfl (pcs_oneM [(txtP (o0 :: or))]) (by unfold maxLen; omega) (by omega) (by first | omega | (simp <;> omega)) ?_))
      intro v1 w1 ho1 hu1 hf1
      have hoS : PP w1 (w.heap.size + 1) v1 (partsTo k [[], o0 :: or] []) := by
        rw [show ([[], o0 :: or] : List Str) = [[]] ++ [o0 :: or] from rfl, hsn]
        exact own_partsM (l' := [txtP (o0 :: or)]) ho1 rfl
      have hBS := (hB0.alloc (.cells #[.int .i64 1, .int .i64 0, .string ⟨#[L]⟩] 81)).trans hu1 fun j hj => own_ge ho0 hj
      clear ho0 hB0 ho1 hu1 hf1 hsn
      go_wp2_with fail
      go_loopw [3, 4] (fun pv i wr => ∃ j : Nat, j ≤ ns.length ∧ i = .int .i64 j ∧ PP wr (w.heap.size + 1) pv (partsTo k [[], (o0 :: or)] (ns.take j)) ∧ KyBox w k [] (o0 :: or) (.slice a ns.length c) wr) (fun _ i _ => ns.length - (intOf i).toNat)
      case atStart => exact ⟨0, by omega, rfl, hoS, hBS⟩
      case round =>
        clear hoS hBS
        obtain ⟨j, hj, rfl, ho, hB⟩ := hrel
        obtain ⟨c0, c1, c2, c3⟩ := hB.cells
        have hsz := hB.size
        have hle := partsTo_le k [[], (o0 :: or)] (ns.take j)
        rw [List.length_take] at hle
        simp only [List.length_cons, List.length_nil] at hle
        by_cases hlt : j < ns.length
        · obtain ⟨g, off, rfl, d0⟩ := hcell.out j hlt
          replace d0 := hB.cell d0
          have ht := Lib.hid (take_snoc ns j hlt)
          have hsn := Lib.hid (partsTo_num k [[], (o0 :: or)] (ns.take j) ns[j])
          generalize ns[j] = n at *
          have e0 := fun x => ((hB.alloc x).cells).1
          by_cases hk2 : k = 2
          · have hkb : (k == 2) = true := by simp [hk2]
            have hkp : Hid (numPt k n = ⟨3, n, []⟩) := Lib.hid (by rw [hk2]; rfl)
            replace hk2 := Lib.hid hk2
            go_wp2_with (at_builtin; go_must (refine wpList_app1n rfl _ _ 74 rfl (w.heap.size + 1) 81 (.agg #[.int .i64 0, .int .i64 0, .string ⟨#[]⟩]) 3 32 Tryd.underlying74 hi2.out rfl _ _ _ rfl (ho.alloc _) [.int .i64 3, .int .i64 n, .string ⟨#[]⟩] (wr.heap.size + 1) rfl (by first | rfl | simp) rfl (pcs_oneM [⟨3, n, []⟩]) (by unfold maxLen; omega) (by omega) (by first | omega | (simp <;> omega)) ?_))
            intro v3 w3 ho3 hu3 hf3
            have ho3 : PP w3 (w.heap.size + 1) v3 _ := own_partsM (l' := [⟨3, n, []⟩]) ho3 rfl
            have hB3 := (hB.alloc _).trans hu3 fun j hj => own_ge ho hj
            clear e0
            go_wp2_with fail
            go_roundw
            case rel => exact ⟨j + 1, by omega, by go_num, by rw [ht.out, hsn.out, hkp.out]; exact ho3, hB3⟩
            case measure => simp [intOf]; omega
          · have hkb : (k == 2) = false := by simp [hk2]
            have hkp : Hid (numPt k n = ⟨2, n, []⟩) := Lib.hid (by unfold numPt; rw [if_neg hk2])
            replace hk2 := Lib.hid hk2
            go_wp2_with (at_builtin; go_must (refine wpList_app1n rfl _ _ 74 rfl (w.heap.size + 1) 81 (.agg #[.int .i64 0, .int .i64 0, .string ⟨#[]⟩]) 3 32 Tryd.underlying74 hi2.out rfl _ _ _ rfl (ho.alloc _) [.int .i64 2, .int .i64 n, .string ⟨#[]⟩] (wr.heap.size + 1) rfl (by first | rfl | simp) rfl (pcs_oneM [⟨2, n, []⟩]) (by unfold maxLen; omega) (by omega) (by first | omega | (simp <;> omega)) ?_))
            intro v3 w3 ho3 hu3 hf3
            have ho3 : PP w3 (w.heap.size + 1) v3 _ := own_partsM (l' := [⟨2, n, []⟩]) ho3 rfl
            have hB3 := (hB.alloc _).trans hu3 fun j hj => own_ge ho hj
            clear e0
            go_wp2_with fail
            go_roundw
            case rel => exact ⟨j + 1, by omega, by go_num, by rw [ht.out, hsn.out, hkp.out]; exact ho3, hB3⟩
            case measure => simp [intOf]; omega
        · obtain rfl : j = ns.length := by omega
          rw [List.take_length] at ho
          go_wp2_with fail
          go_ret
          exact ⟨_, rfl, has_of_owns ho, hB.upd⟩
  | cons b0 br =>
    have hsn := partsTo_txt k [] (b0 :: br) (by simp)
    have hle1 := partsTo_le k [b0 :: br] []
    simp only [List.length_cons, List.length_nil] at hle1
    go_wp2_with (at_builtin; go_must (refine wpList_app1n rfl _ _ 74 rfl (w.heap.size + 1) 81 (.agg #[.int .i64 0, .int .i64 0, .string ⟨#[]⟩]) 3 32 Tryd.underlying74 hi2.out rfl _ _ _ rfl ho0 [.int .i64 1, .int .i64 0, .string ⟨(b0 :: br).toArray⟩] (w.heap.size + 2) rfl (by first | rfl | simp) rfl (pcs_oneM [(txtP (b0 :: br))]) (by unfold maxLen; omega) (by omega) (by first | omega | (simp <;> omega)) ?_))
    intro v1 w1 ho1 hu1 hf1
    have hoS : PP w1 (w.heap.size + 1) v1 (partsTo k [b0 :: br] []) := by
      rw [show ([b0 :: br] : List Str) = [] ++ [b0 :: br] from rfl, hsn]
      exact own_partsM (l' := [txtP (b0 :: br)]) ho1 rfl
    have hBS := (hB0.alloc (.cells #[.int .i64 1, .int .i64 0, .string ⟨#[L]⟩] 81)).trans hu1 fun j hj => own_ge ho0 hj
    clear ho0 hB0 ho1 hu1 hf1 hsn
    obtain ⟨c0, c1, c2, c3⟩ := hBS.cells
    have hsz := hBS.size
    cases o with
    | nil =>
      have hoS : PP w1 (w.heap.size + 1) v1 (partsTo k [b0 :: br, []] []) := by
        rw [show ([b0 :: br, []] : List Str) = [b0 :: br] ++ [[]] from rfl, partsTo_nil]; exact hoS
      go_wp2_with fail
      clear c0 c1 c2 c3 hsz
      go_loopw [3, 4] (fun pv i wr => ∃ j : Nat, j ≤ ns.length ∧ i = .int .i64 j ∧ PP wr (w.heap.size + 1) pv (partsTo k [(b0 :: br), []] (ns.take j)) ∧ KyBox w k (b0 :: br) [] (.slice a ns.length c) wr) (fun _ i _ => ns.length - (intOf i).toNat)
      case atStart => exact ⟨0, by omega, rfl, hoS, hBS⟩
      case round =>
        clear hoS hBS
        obtain ⟨j, hj, rfl, ho, hB⟩ := hrel
        obtain ⟨c0, c1, c2, c3⟩ := hB.cells
        have hsz := hB.size
        have hle := partsTo_le k [(b0 :: br), []] (ns.take j)
        rw [List.length_take] at hle
        simp only [List.length_cons, List.length_nil] at hle
        by_cases hlt : j < ns.length
        · obtain ⟨g, off, rfl, d0⟩ := hcell.out j hlt
          replace d0 := hB.cell d0
          have ht := Lib.hid (take_snoc ns j hlt)
          have hsn := Lib.hid (partsTo_num k [(b0 :: br), []] (ns.take j) ns[j])
          generalize ns[j] = n at *
          have e0 := fun x => ((hB.alloc x).cells).1
          by_cases hk2 : k = 2
          · have hkb : (k == 2) = true := by simp [hk2]
            have hkp : Hid (numPt k n = ⟨3, n, []⟩) := Lib.hid (by rw [hk2]; rfl)
            replace hk2 := Lib.hid hk2
            go_wp2_with (at_builtin; go_must (refine wpList_app1n rfl _ _ 74 rfl (w.heap.size + 1) 81 (.agg #[.int .i64 0, .int .i64 0, .string ⟨#[]⟩]) 3 32 Tryd.underlying74 hi2.out rfl _ _ _ rfl (ho.alloc _) [.int .i64 3, .int .i64 n, .string ⟨#[]⟩] (wr.heap.size + 1) rfl (by first | rfl | simp) rfl (pcs_oneM [⟨3, n, []⟩]) (by unfold maxLen; omega) (by omega) (by first | omega | (simp <;> omega)) ?_))
            intro v3 w3 ho3 hu3 hf3
            have ho3 : PP w3 (w.heap.size + 1) v3 _ := own_partsM (l' := [⟨3, n, []⟩]) ho3 rfl
            have hB3 := (hB.alloc _).trans hu3 fun j hj => own_ge ho hj
            clear e0
            go_wp2_with fail
            go_roundw
            case rel => exact ⟨j + 1, by omega, by go_num, by rw [ht.out, hsn.out, hkp.out]; exact ho3, hB3⟩
            case measure => simp [intOf]; omega
          · have hkb : (k == 2) = false := by simp [hk2]
            have hkp : Hid (numPt k n = ⟨2, n, []⟩) := Lib.hid (by unfold numPt; rw [if_neg hk2])
            replace hk2 := Lib.hid hk2
            go_wp2_with (at_builtin; go_must (refine wpList_app1n rfl _ _ 74 rfl (w.heap.size + 1) 81 (.agg #[.int .i64 0, .int .i64 0, .string ⟨#[]⟩]) 3 32 Tryd.underlying74 hi2.out rfl _ _ _ rfl (ho.alloc _) [.int .i64 2, .int .i64 n, .string ⟨#[]⟩] (wr.heap.size + 1) rfl (by first | rfl | simp) rfl (pcs_oneM [⟨2, n, []⟩]) (by unfold maxLen; omega) (by omega) (by first | omega | (simp <;> omega)) ?_))
            intro v3 w3 ho3 hu3 hf3
            have ho3 : PP w3 (w.heap.size + 1) v3 _ := own_partsM (l' := [⟨2, n, []⟩]) ho3 rfl
            have hB3 := (hB.alloc _).trans hu3 fun j hj => own_ge ho hj
            clear e0
            go_wp2_with fail
            go_roundw
            case rel => exact ⟨j + 1, by omega, by go_num, by rw [ht.out, hsn.out, hkp.out]; exact ho3, hB3⟩
            case measure => simp [intOf]; omega
        · obtain rfl : j = ns.length := by omega
          rw [List.take_length] at ho
          go_wp2_with fail
          go_ret
          exact ⟨_, rfl, has_of_owns ho, hB.upd⟩
    | cons o0 or =>
      have hsn := partsTo_txt k [b0 :: br] (o0 :: or) (by simp)
      go_wp2_with (at_builtin; go_must (refine wpList_app1n rfl _ _ 74 rfl (w.heap.size + 1) 81 (.agg #[.int .i64 0, .int .i64 0, .string ⟨#[]⟩]) 3 32 Tryd.underlying74 hi2.out rfl _ _ _ rfl hoS [.int .i64 1, .int .i64 0, .string ⟨(o0 :: or).toArray⟩] w1.heap.size rfl (by first | rfl | simp) rfl (pcs_oneM [(txtP (o0 :: or))]) (by unfold maxLen; omega) (by omega) (by first | omega | (simp <;> omega)) ?_))
      intro v2 w2 ho2 hu2 hf2
      have hBS := hBS.trans hu2 fun j hj => own_ge hoS hj
      have hoS : PP w2 (w.heap.size + 1) v2 (partsTo k [b0 :: br, o0 :: or] []) := by
        rw [show ([b0 :: br, o0 :: or] : List Str) = [b0 :: br] ++ [o0 :: or] from rfl, hsn]
        exact own_partsM (l' := [txtP (o0 :: or)]) ho2 rfl
      clear ho2 hu2 hf2 hsn c0 c1 c2 c3 hsz
      go_wp2_with fail
      go_loopw [3, 4] (fun pv i wr => ∃ j : Nat, j ≤ ns.length ∧ i = .int .i64 j ∧ PP wr (w.heap.size + 1) pv (partsTo k [(b0 :: br), (o0 :: or)] (ns.take j)) ∧ KyBox w k (b0 :: br) (o0 :: or) (.slice a ns.length c) wr) (fun _ i _ => ns.length - (intOf i).toNat)
      case atStart => exact ⟨0, by omega, rfl, hoS, hBS⟩
      case round =>
        clear hoS hBS
        obtain ⟨j, hj, rfl, ho, hB⟩ := hrel
        obtain ⟨c0, c1, c2, c3⟩ := hB.cells
        have hsz := hB.size
        have hle := partsTo_le k [(b0 :: br), (o0 :: or)] (ns.take j)
        rw [List.length_take] at hle
        simp only [List.length_cons, List.length_nil] at hle
        by_cases hlt : j < ns.length
        · obtain ⟨g, off, rfl, d0⟩ := hcell.out j hlt
          replace d0 := hB.cell d0
          have ht := Lib.hid (take_snoc ns j hlt)
          have hsn := Lib.hid (partsTo_num k [(b0 :: br), (o0 :: or)] (ns.take j) ns[j])
          generalize ns[j] = n at *
          have e0 := fun x => ((hB.alloc x).cells).1
          by_cases hk2 : k = 2
          · have hkb : (k == 2) = true := by simp [hk2]
            have hkp : Hid (numPt k n = ⟨3, n, []⟩) := Lib.hid (by rw [hk2]; rfl)
            replace hk2 := Lib.hid hk2
            go_wp2_with (at_builtin; go_must (refine wpList_app1n rfl _ _ 74 rfl (w.heap.size + 1) 81 (.agg #[.int .i64 0, .int .i64 0, .string ⟨#[]⟩]) 3 32 Tryd.underlying74 hi2.out rfl _ _ _ rfl (ho.alloc _) [.int .i64 3, .int .i64 n, .string ⟨#[]⟩] (wr.heap.size + 1) rfl (by first | rfl | simp) rfl (pcs_oneM [⟨3, n, []⟩]) (by unfold maxLen; omega) (by omega) (by first | omega | (simp <;> omega)) ?_))
            intro v3 w3 ho3 hu3 hf3
            have ho3 : PP w3 (w.heap.size + 1) v3 _ := own_partsM (l' := [⟨3, n, []⟩]) ho3 rfl
            have hB3 := (hB.alloc _).trans hu3 fun j hj => own_ge ho hj
            clear e0
            go_wp2_with fail
            go_roundw
            case rel => exact ⟨j + 1, by omega, by go_num, by rw [ht.out, hsn.out, hkp.out]; exact ho3, hB3⟩
            case measure => simp [intOf]; omega
          · have hkb : (k == 2) = false := by simp [hk2]
            have hkp : Hid (numPt k n = ⟨2, n, []⟩) := Lib.hid (by unfold numPt; rw [if_neg hk2])
            replace hk2 := Lib.hid hk2
            go_wp2_with (at_builtin; go_must (refine wpList_app1n rfl _ _ 74 rfl (w.heap.size + 1) 81 (.agg #[.int .i64 0, .int .i64 0, .string ⟨#[]⟩]) 3 32 Tryd.underlying74 hi2.out rfl _ _ _ rfl (ho.alloc _) [.int .i64 2, .int .i64 n, .string ⟨#[]⟩] (wr.heap.size + 1) rfl (by first | rfl | simp) rfl (pcs_oneM [⟨2, n, []⟩]) (by unfold maxLen; omega) (by omega) (by first | omega | (simp <;> omega)) ?_))
            intro v3 w3 ho3 hu3 hf3
            have ho3 : PP w3 (w.heap.size + 1) v3 _ := own_partsM (l' := [⟨2, n, []⟩]) ho3 rfl
            have hB3 := (hB.alloc _).trans hu3 fun j hj => own_ge ho hj
            clear e0
            go_wp2_with fail
            go_roundw
            case rel => exact ⟨j + 1, by omega, by go_num, by rw [ht.out, hsn.out, hkp.out]; exact ho3, hB3⟩
            case measure => simp [intOf]; omega
        · obtain rfl : j = ns.length := by omega
          rw [List.take_length] at ho
          go_wp2_with fail
          go_ret
          exact ⟨_, rfl, has_of_owns ho, hB.upd⟩
end Go.Proofs.YtaflpabpkpfifaaDoor
