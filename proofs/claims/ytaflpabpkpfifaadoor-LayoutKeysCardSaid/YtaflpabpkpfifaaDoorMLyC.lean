/- The walk over layout.encode: the bytes of a key's parts. -/
import Derived.Test.YtaflpabpkpfifaaDoorMLyB
namespace Go.Proofs.YtaflpabpkpfifaaDoor
set_option maxRecDepth 100000
open Go.RowKit Go.Amb
set_option linter.unusedVariables false
attribute [local go_sem ↓] Go.wp_at_zero Go.wp_at_succ

theorem letter_sub (k : Int) (hk : 1 ≤ k ∧ k ≤ 6) (w : World) : (Instr.slice 9 (.string ⟨#[98, 111, 99, 117, 112, 113]⟩) (some (.int .i64 (k - 1))) (some (.int .i64 k)) none).run Tryd.prog w = .ok (.string ⟨[letterK k].toArray⟩) w := by
  obtain ⟨j, hj, rfl⟩ : ∃ j : Nat, j < 6 ∧ k = (j : Int) + 1 := ⟨(k - 1).toNat, by omega, by omega⟩
  have h := run_sub (P := Tryd.prog) 9 Tryd.underlying9 lettersL ((j : Int) + 1 - 1) ((j : Int) + 1) j (j + 1) (by omega) (by omega) (by omega) (by show j + 1 ≤ 6; omega) w
  refine h.trans ?_
  have : j = 0 ∨ j = 1 ∨ j = 2 ∨ j = 3 ∨ j = 4 ∨ j = 5 := by omega
  rcases this with rfl | rfl | rfl | rfl | rfl | rfl <;> rfl
/-- The parts told so far. -/
def partsTo (k : Int) (l : List Str) (ns : List Int) : List Part := txtP [letterK k] :: (l.flatMap optP ++ ns.map (numPt k))
theorem partsTo_txt (k : Int) (l : List Str) (s : Str) (h : s ≠ []) : partsTo k (l ++ [s]) [] = partsTo k l [] ++ [txtP s] := by
  unfold partsTo
  simp [optP, h]
theorem partsTo_nil (k : Int) (l : List Str) : partsTo k (l ++ [[]]) [] = partsTo k l [] := by
  unfold partsTo
  simp [optP]
theorem partsTo_num (k : Int) (l : List Str) (ns : List Int) (n : Int) : partsTo k l (ns ++ [n]) = partsTo k l ns ++ [numPt k n] := by
  unfold partsTo
  simp
theorem optP_le (l : List Str) : (l.flatMap optP).length ≤ l.length := by
  induction l with
  | nil => simp
  | cons s l ih => 
    rw [List.flatMap_cons, List.length_append, List.length_cons]
    have : (optP s).length ≤ 1 := by unfold optP; split <;> simp
    omega
theorem partsTo_le (k : Int) (l : List Str) (ns : List Int) : (partsTo k l ns).length ≤ l.length + ns.length + 1 := by
  have := optP_le l
  unfold partsTo
  simp only [List.length_cons, List.length_append, List.length_map]; omega
theorem partsTo_ok (k : Int) (l : List Str) (ns : List Int) (hs : ∀ s ∈ l, s.length ≤ 140737488355328) (hn : ∀ n ∈ ns, i64Ok n) : ∀ p ∈ partsTo k l ns, numOk p ∧ p.s.length ≤ 140737488355328 := by
  intro p hp
  unfold partsTo at hp
  simp only [List.mem_cons, List.mem_append, List.mem_flatMap, List.mem_map] at hp
  have hz : numOk (txtP []) := ⟨by show (-9223372036854775808 : Int) ≤ 0; decide, by show (0 : Int) ≤ 9223372036854775807; decide⟩
  rcases hp with rfl | ⟨s, h1, hp⟩ | ⟨n, h1, rfl⟩
  · exact ⟨hz, by show [letterK k].length ≤ _; simp⟩
  · unfold optP at hp
    split at hp
    · cases hp
    · simp at hp; subst hp; exact ⟨hz, hs s h1⟩
  · exact ⟨hn n h1, by show ([] : Str).length ≤ _; simp⟩
/-- A slice of parts of the call's own. -/
abbrev PP (w : World) (base : Nat) (v : Value) (xs : List Part) : Prop := w.ownsRow base 81 3 v xs.length (pcs xs)
/-- The world behind a call's own box of a key. -/
def KyBox (w : World) (k : Int) (b o : Str) (nv : Value) (wr : World) : Prop := Upd Non (w.alloc (.cells #[.int .i64 k, .string ⟨b.toArray⟩, .string ⟨o.toArray⟩, nv] 25)) wr
section
variable {w wr : World} {k : Int} {b o : Str} {nv : Value}
theorem KyBox.cells (h : KyBox w k b o nv wr) : wr.cell? ⟨w.heap.size, 0, none⟩ = some (.int .i64 k) ∧ wr.cell? ⟨w.heap.size, 1, none⟩ = some (.string ⟨b.toArray⟩) ∧ wr.cell? ⟨w.heap.size, 2, none⟩ = some (.string ⟨o.toArray⟩) ∧ wr.cell? ⟨w.heap.size, 3, none⟩ = some nv :=
  ⟨(h.own1 (fun _ h => h.elim)).1 0, (h.own1 (fun _ h => h.elim)).1 1, (h.own1 (fun _ h => h.elim)).1 2, (h.own1 (fun _ h => h.elim)).1 3⟩
theorem KyBox.upd (h : KyBox w k b o nv wr) : Upd Non w wr := (h.own1 (fun _ h => h.elim)).2.2.2
theorem KyBox.size (h : KyBox w k b o nv wr) : w.heap.size + 1 ≤ wr.heap.size := by have := Upd.size h; simpa using this
theorem KyBox.trans {S : Nat → Prop} {w' : World} (h : KyBox w k b o nv wr) (hu : Upd S wr w') (hS : ∀ j, S j → w.heap.size < j) : KyBox w k b o nv w' :=
  Upd.trans h hu fun j hj hs => absurd (hS j hs) (by simp at hj; omega)
theorem KyBox.alloc (h : KyBox w k b o nv wr) (x : Obj) : KyBox w k b o nv (wr.alloc x) := h.trans (Upd.alloc Non _ _) fun _ h => h.elim
theorem KyBox.drew (h : KyBox w k b o nv wr) : KyBox w k b o nv wr.drew := h.trans (Upd.drew Non _) fun _ h => h.elim
theorem KyBox.cell (h : KyBox w k b o nv wr) {p : Addr} {v : Value} (hc : w.cell? p = some v) : wr.cell? p = some v := h.upd.cell hc fun h => h
end

set_option maxHeartbeats 4000000 in
theorem yEncode (x : Ky) (nv tv : Value) (l : List Str) (w : World) (hk : 1 ≤ x.k ∧ x.k ≤ 6) (hn : ∀ n ∈ x.ns, i64Ok n) (hl : l.length ≤ 2) (hs : ∀ s ∈ l, s.length ≤ 140737488355328) (hnl : x.ns.length ≤ 3) (hN : Ints w nv x.ns) (hT : Txts w tv l) :
    Calls Tryd.prog 32 #[kyV x nv, tv] w (Ret (txtV (encR (partsTo x.k l x.ns)).1) w) := by
  obtain ⟨a, c, rfl, hlc, hc, hcell⟩ := ints_at hN
  obtain ⟨ta, tc, rfl, htc1, htc2, htcell⟩ : ∃ ta tc, tv = .slice ta l.length tc ∧ l.length ≤ tc ∧ tc ≤ maxLen ∧ ∀ k (hk : k < l.length), ∃ g off, ta = some ⟨g, off, none⟩ ∧ w.cell? ⟨g, off + k, none⟩ = some (txtV l[k]) := by
    obtain ⟨hl, a, c, rfl, h1, h2, h3⟩ := hT
    refine ⟨a, c, rfl, h1, h2, fun k hk => ?_⟩
    rcases h3 with h3 | ⟨g, off, rfl, hc⟩
    · omega
    · exact ⟨g, off, rfl, hc k _ (by simp [hk])⟩
  have hmx := hc
  have hmt := htc2
  unfold maxLen at hmx hmt
  replace hcell := Lib.hid hcell
  replace htcell := Lib.hid htcell
  have hi2 := Lib.hid (@info_partM)
  have hsub := letter_sub x.k hk
  obtain ⟨k, b, o, ns⟩ := x
  unfold kyV
  simp only at hcell hlc hk hn hnl hsub ⊢
  unfold txtV at htcell ⊢
  have hlet := Lib.hid (yText [letterK k])
  have hokp := Lib.hid (partsTo_ok k l ns hs hn)
  generalize hL : letterK k = L at *
  go_enter Tryd.func32, Tryd.ntmps32
  go_wp2_with fail
  refine (hlet.out _).mono ?_
  rintro e w1 ⟨rfl, hu1⟩
  simp only [pV, txtP]
  have hB1 : KyBox w k b o (.slice a ns.length c) w1 := hu1
  clear hu1
  have hz1 := hB1.size
  have ho1 : PP (w1.alloc (.cells #[.int .i64 1, .int .i64 0, .string ⟨#[L]⟩] 81)) (w.heap.size + 1) (.slice (some ⟨w1.heap.size, 0, none⟩) 1 1) (partsTo k (l.take 0) []) := by
    have := World.ownsRow_lit (base := w.heap.size + 1) (size := 3) (e := 81) w1 #[.int .i64 1, .int .i64 0, .string ⟨#[L]⟩] 1 hz1 (by decide) rfl
    unfold PP partsTo
    rw [hL]
    exact this
  have hB1a := hB1.alloc (.cells #[.int .i64 1, .int .i64 0, .string ⟨#[L]⟩] 81)
  clear hL
  go_wp2_with fail
  go_loopw [5, 22] (fun pv i wr => ∃ j : Nat, j ≤ l.length ∧ i = .int .i64 j ∧ PP wr (w.heap.size + 1) pv (partsTo k (l.take j) []) ∧ KyBox w k b o (.slice a ns.length c) wr) (fun _ i _ => l.length - (intOf i).toNat)
  case atStart => exact ⟨0, by omega, rfl, ho1, hB1a⟩
  case round =>
    obtain ⟨j, hj, rfl, ho, hB⟩ := hrel
    by_cases hlt : j < l.length
    · obtain ⟨g, off, rfl, c0⟩ := htcell.out j hlt
      replace c0 := hB.cell c0
      have hsj := hs l[j] (List.getElem_mem hlt)
      have ht := Lib.hid (take_snoc l j hlt)
      have hle := partsTo_le k (l.take j) []
      rw [List.length_take, List.length_nil] at hle
      generalize l[j] = s at *
      cases s with
      | nil =>
        go_wp2_with fail
        go_roundw
        case rel => exact ⟨j + 1, by omega, by go_num, by rw [ht.out, partsTo_nil]; exact ho, hB⟩
        case measure => simp [intOf]; omega
      | cons s0 sr =>
        have hcall := Lib.hid (yText (s0 :: sr))
        have hsn := Lib.hid (partsTo_txt k (l.take j) (s0 :: sr) (by simp))
        unfold txtV at hcall
        go_wp2_with fail
        refine (hcall.out _).mono ?_
        rintro e w2 ⟨rfl, hu2⟩
        simp only [pV, txtP]
        have ho2 : PP w2 _ _ _ := hu2.owns ho fun _ _ h => h
        have hB2 := hB.trans hu2 fun _ h => h.elim
        have hz2 := hB2.size
        go_wp2_with (at_builtin; go_must (refine wpList_app1n rfl _ _ 74 rfl (w.heap.size + 1) 81 (.agg #[.int .i64 0, .int .i64 0, .string ⟨#[]⟩]) 3 32 Tryd.underlying74 hi2.out rfl _ _ _ rfl ho2 [.int .i64 1, .int .i64 0, .string ⟨(s0 :: sr).toArray⟩] w2.heap.size rfl rfl rfl (pcs_oneM [txtP (s0 :: sr)]) (by unfold maxLen; omega) (by omega) (by omega) ?_))
        intro v3 w3 ho3 hu3 hf3
        have ho3 : PP w3 (w.heap.size + 1) v3 _ := own_partsM (l' := [txtP (s0 :: sr)]) ho3 rfl
        have hB3 := hB2.trans hu3 fun j hj => own_ge ho2 hj
        go_wp2_with fail
        go_roundw
        case rel => exact ⟨j + 1, by omega, by go_num, by rw [ht.out, hsn.out]; exact ho3, hB3⟩
        case measure => simp [intOf]; omega
    · obtain rfl : j = l.length := by omega
      rw [List.take_length] at ho
      obtain ⟨c0, c1, c2, c3⟩ := hB.cells
      go_wp2_with fail
      go_loopw [5, 37] (fun pv i wr => ∃ j : Nat, j ≤ ns.length ∧ i = .int .i64 j ∧ PP wr (w.heap.size + 1) pv (partsTo k l (ns.take j)) ∧ KyBox w k b o (.slice a ns.length c) wr) (fun _ i _ => ns.length - (intOf i).toNat)
      case atStart => exact ⟨0, by omega, rfl, ho, hB⟩
      case round =>
        clear c0 c1 c2 c3 ho hB
        obtain ⟨j, hj, rfl, ho, hB⟩ := hrel
        obtain ⟨c0, c1, c2, c3⟩ := hB.cells
        have hle := partsTo_le k l (ns.take j)
        rw [List.length_take] at hle
        by_cases hlt : j < ns.length
        · obtain ⟨g, off, rfl, d0⟩ := hcell.out j hlt
          replace d0 := hB.cell d0
          have ht := Lib.hid (take_snoc ns j hlt)
          have hsn := Lib.hid (partsTo_num k l (ns.take j) ns[j])
          have hcall := Lib.hid (yNumber k ns[j])
          generalize ns[j] = n at *
          go_wp2_with fail
          refine (hcall.out _).mono ?_
          rintro e w2 ⟨rfl, hu2⟩
          have ho2 : PP w2 _ _ _ := hu2.owns ho fun _ _ h => h
          have hB2 := hB.trans hu2 fun _ h => h.elim
          have hz2 := hB2.size
          simp only [pV]
          have hns : (numPt k n).s = [] := rfl
          generalize hkk : (numPt k n).k = kk
          go_wp2_with (at_builtin; go_must (refine wpList_app1n rfl _ _ 74 rfl (w.heap.size + 1) 81 (.agg #[.int .i64 0, .int .i64 0, .string ⟨#[]⟩]) 3 32 Tryd.underlying74 hi2.out rfl _ _ _ rfl ho2 [.int .i64 kk, .int .i64 (numPt k n).n, .string ⟨(numPt k n).s.toArray⟩] w2.heap.size rfl rfl rfl (by rw [← hkk]; exact pcs_oneM [numPt k n]) (by unfold maxLen; omega) (by omega) (by omega) ?_))
          intro v3 w3 ho3 hu3 hf3
          rw [← hkk] at ho3
          have ho3 : PP w3 (w.heap.size + 1) v3 _ := own_partsM (l' := [numPt k n]) ho3 rfl
          have hB3 := hB2.trans hu3 fun j hj => own_ge ho2 hj
          go_wp2_with fail
          go_roundw
          case rel => exact ⟨j + 1, by omega, by go_num, by rw [ht.out, hsn.out]; exact ho3, hB3⟩
          case measure => simp [intOf]; omega
        · obtain rfl : j = ns.length := by omega
          rw [List.take_length] at ho
          have hP : Parts wr _ _ := has_of_owns ho
          have hE := Lib.hid (tEncode _ _ wr hokp.out hP)
          go_wp2_with fail
          refine hE.out.mono ?_
          rintro e w4 ⟨rfl, hu4⟩
          go_wp2_with fail
          go_ret
          exact ⟨rfl, (hB.trans hu4 fun _ h => h.elim).upd⟩
end Go.Proofs.YtaflpabpkpfifaaDoor
