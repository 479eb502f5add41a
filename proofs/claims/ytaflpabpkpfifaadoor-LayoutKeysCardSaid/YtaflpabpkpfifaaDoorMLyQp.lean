/- The walk over ambryref21.Parse (printed by gen/mkqparse.py). -/
import Derived.Test.YtaflpabpkpfifaaDoorMLyG
import Derived.Test.YtaflpabpkpfifaaDoorMTP
import Derived.Test.YtaflpabpkpfifaaDoorMLyI0
import Derived.Test.YtaflpabpkpfifaaDoorMLyBk
namespace Go.Proofs.YtaflpabpkpfifaaDoor
set_option maxRecDepth 100000
open Go.RowKit Go.Amb
set_option linter.unusedVariables false
attribute [local go_sem ↓] Go.wp_at_zero Go.wp_at_succ

/-- The key that the reference tells of parts. -/
def kyQ (k : Int) (b : Str) (r : List Part) : Ky := match r with | [] => ⟨k, b, [], []⟩ | u :: r => if 1 < k then ⟨k, b, u.s, r.map (·.n)⟩ else ⟨k, b, [], (u :: r).map (·.n)⟩
theorem kyQ_k (k : Int) (b : Str) (r : List Part) : (kyQ k b r).k = k := by
  unfold kyQ
  cases r with
  | nil => rfl
  | cons u r => by_cases h : 1 < k <;> simp [h]
theorem kyQ_from (k : Int) (b : Str) (r : List Part) (h : 1 ≤ k) : kyQ k b r = kyFrom k b r := by
  unfold kyQ kyFrom
  cases r with
  | nil =>
    by_cases h1 : k = 1
    · subst h1; rfl
    · rw [if_neg h1]
  | cons u r =>
    by_cases h1 : k = 1
    · subst h1; rfl
    · rw [if_neg h1]
      show (if 1 < k then _ else _) = _
      rw [if_pos (by omega)]
theorem kyQ_yes {s : Str} {p q : Part} {r : List Part} (hd : decR s = (p :: q :: r, 0)) (h : keyR (kyQ (kindOf p.s) q.s r) = (s, 0)) : parseR s = (kyQ (kindOf p.s) q.s r, 0) := by
  have hk := key_kind0 h
  rw [kyQ_k] at hk
  have hb := kind_bounds p.s
  rw [kyQ_from _ _ _ (by omega)] at h ⊢
  unfold parseR
  rw [hd]
  rw [if_pos ⟨rfl, by simp, h⟩]
  rfl
theorem kyQ_no {s : Str} {p q : Part} {r : List Part} (hd : decR s = (p :: q :: r, 0)) (h : keyR (kyQ (kindOf p.s) q.s r) ≠ (s, 0)) : parseR s = (Ky.none, 4) := by
  refine parseR_no fun e => ?_
  rw [hd] at e
  have e2 : keyR (kyFrom (kindOf p.s) q.s r) = (s, 0) := e.2.2
  have hk := key_kind0 e.2.2
  rw [kyOf_k] at hk
  have hb := kind_bounds p.s
  rw [← kyQ_from _ _ _ (by omega)] at e2
  exact h e2
theorem kind_eq {s : Str} {j : Int} (h : kindOf s = j) (h0 : 1 ≤ j) : s = [letterK j] := by
  obtain ⟨c, rfl⟩ := kind_letter (s := s) (by omega)
  rw [kindOf_one] at h
  cases hf : lettersL.findIdx? (· == c) with
  | none => rw [hf] at h; simp at h; omega
  | some i =>
    rw [hf] at h
    simp at h
    obtain ⟨hi, he, _⟩ := List.findIdx?_eq_some_iff_getElem.1 hf
    have hi6 : i < 6 := hi
    simp only [beq_iff_eq] at he
    rw [← he]
    subst h
    have : i = 0 ∨ i = 1 ∨ i = 2 ∨ i = 3 ∨ i = 4 ∨ i = 5 := by omega
    rcases this with rfl | rfl | rfl | rfl | rfl | rfl <;> rfl
/-- The kind, once the letters below j are seen. -/
def kkOf (kd j : Int) : Int := if kd < j then kd else 0
set_option maxHeartbeats 4000000 in
theorem q21Parse (s : Str) (w : World) : Calls Tryd.prog 15 #[txtV s] w (KeyRet (parseR s).1 (parseR s).2 w) := by
  have hdec := rDecode s
  have hok := dec_ok s
  have hfew := dec_few s
  have hno := @parseR_no s
  have hi3 := Lib.hid info_int21
  rcases hd : decR s with ⟨l, e⟩
  have hyesQ := fun p q r (h : decR s = (p :: q :: r, 0)) => @kyQ_yes s p q r h
  have hnoQ := fun p q r (h : decR s = (p :: q :: r, 0)) => @kyQ_no s p q r h
  rw [hd] at hdec hno hok hfew hyesQ hnoQ
  simp only at hdec hno hok hfew
  replace hdec := Lib.hid hdec
  by_cases he : e = 0
  · subst he
    rcases l with _ | ⟨p, _ | ⟨q, r⟩⟩
    · have hpr := hno (fun h => by simp at h)
      rw [hpr]
      clear hd hpr hno hyesQ hnoQ
      unfold txtV
      go_enter Tryd.func15, Tryd.ntmps15
      go_wp2_with fail
      refine (hdec.out _).mono ?_
      rintro e1 w1 ⟨v, rfl, hP, hX, hown⟩
      obtain ⟨a, cc, rfl, hlc, hcm, hcell⟩ := parts_at hP
      replace hcell := Lib.hid hcell
      unfold maxLen at hcm
      have hb := hX.heap (heap_alloc_new w _) fun h => h
      have hU := (hX.own1 (fun _ h => h.elim)).2.2.2
      clear hX
      try simp only []
      go_wp2_with ((with_reducible (show wpList _ _ _ (⟨_, Op.store _ _ _, _, _, _, _⟩ :: _) _ _)); refine storeB_list rfl 25 _ _ rfl w.heap.size #[.int .i64 0, .string ⟨#[]⟩, .string ⟨#[]⟩, .slice none 0 0] _ _ rfl rfl hb rfl size_key.out (by simp [Value.oneCell']) ?_)
      intro w8 hb8 hu8
      obtain ⟨x0, x1, x2, x3⟩ := cells4 hb8
      have hU8 := hU.trans hu8 (fun k hk e => by (have : k = w.heap.size := e); omega)
      clear hb hb8 hu8 hU
      go_wp2_with fail
      refine bodyPost_ret (v := .tuple #[.agg #[.int .i64 0, .string ⟨#[]⟩, .string ⟨#[]⟩, .slice none 0 0], .int .i64 4]) (by simp [results, Tryd.results15, go_sem, x0, x1, x2, x3]; try rfl) rfl ⟨_, rfl, Has.nil _ _, hU8⟩
    · have hpr := hno (fun h => by simp at h)
      rw [hpr]
      clear hd hpr hno hyesQ hnoQ
      unfold txtV
      go_enter Tryd.func15, Tryd.ntmps15
      go_wp2_with fail
      refine (hdec.out _).mono ?_
      rintro e1 w1 ⟨v, rfl, hP, hX, hown⟩
      obtain ⟨a, cc, rfl, hlc, hcm, hcell⟩ := parts_at hP
      replace hcell := Lib.hid hcell
      unfold maxLen at hcm
      have hb := hX.heap (heap_alloc_new w _) fun h => h
      have hU := (hX.own1 (fun _ h => h.elim)).2.2.2
      clear hX
      try simp only []
      go_wp2_with ((with_reducible (show wpList _ _ _ (⟨_, Op.store _ _ _, _, _, _, _⟩ :: _) _ _)); refine storeB_list rfl 25 _ _ rfl w.heap.size #[.int .i64 0, .string ⟨#[]⟩, .string ⟨#[]⟩, .slice none 0 0] _ _ rfl rfl hb rfl size_key.out (by simp [Value.oneCell']) ?_)
      intro w8 hb8 hu8
      obtain ⟨x0, x1, x2, x3⟩ := cells4 hb8
      have hU8 := hU.trans hu8 (fun k hk e => by (have : k = w.heap.size := e); omega)
      clear hb hb8 hu8 hU
      go_wp2_with fail
      refine bodyPost_ret (v := .tuple #[.agg #[.int .i64 0, .string ⟨#[]⟩, .string ⟨#[]⟩, .slice none 0 0], .int .i64 4]) (by simp [results, Tryd.results15, go_sem, x0, x1, x2, x3]; try rfl) rfl ⟨_, rfl, Has.nil _ _, hU8⟩
    · have hyes := hyesQ p q r rfl
      have hnoq := hnoQ p q r rfl
      have hkb := kind_bounds p.s
      have hke := fun j (h0 : 1 ≤ j) (h : kindOf p.s = j) => kind_eq h h0
      have hkn : Hid (∀ j : Int, 1 ≤ j → j ≤ 6 → kindOf p.s ≠ j → (p.s == [letterK j]) = false) := Lib.hid (fun j h0 h6 h => by
        rw [beq_eq_false_iff_ne]
        intro e
        rw [e, kind_of_letter ⟨h0, h6⟩] at h
        exact h rfl)
      replace hke := Lib.hid hke
      clear hd hno hyesQ hnoQ
      generalize parseR s = pr at *
      replace hyes := Lib.hid hyes
      replace hnoq := Lib.hid hnoq
      replace hfew : r.length + 2 ≤ 128 := hfew
      replace hfew := Lib.hid hfew
      replace hok := Lib.hid hok
      generalize kindOf p.s = kd at *
      unfold txtV
      have hn2 : decide (((p :: q :: r).length : Int) < 2) = false := by simp only [List.length_cons, decide_eq_false_iff_not]; omega
      have hlen : (p :: q :: r).length = r.length + 2 := rfl
      go_enter Tryd.func15, Tryd.ntmps15
      go_wp2_with fail
      refine (hdec.out _).mono ?_
      rintro e1 w1 ⟨v, rfl, hP, hX, hown⟩
      obtain ⟨a, cc, rfl, hlc, hcm, hcell⟩ := parts_at hP
      replace hcell := Lib.hid hcell
      unfold maxLen at hcm
      obtain ⟨g, off, ea, c0, c1, c2⟩ := hcell.out 0 (by simp)
      subst ea
      have hcl : ∀ k (hk : k < (p :: q :: r).length), w1.cell? ⟨g, off + k * 3, none⟩ = some (.int .i64 (p :: q :: r)[k].k) ∧ w1.cell? ⟨g, off + k * 3 + 1, none⟩ = some (.int .i64 (p :: q :: r)[k].n) ∧ w1.cell? ⟨g, off + k * 3 + 2, none⟩ = some (.string ⟨(p :: q :: r)[k].s.toArray⟩) := fun k hk => by
        obtain ⟨g', off', e, h0, h1, h2⟩ := hcell.out k hk
        simp only [Option.some.injEq, Addr.mk.injEq] at e
        obtain ⟨rfl, rfl, _⟩ := e
        exact ⟨h0, h1, h2⟩
      clear hcell c0 c1 c2
      have y0 : w1.cell? ⟨g, off + 2, none⟩ = some (.string ⟨p.s.toArray⟩) := (hcl 0 (by simp)).2.2
      have y1 : w1.cell? ⟨g, off + 5, none⟩ = some (.string ⟨q.s.toArray⟩) := (hcl 1 (by simp)).2.2
      have hgl : g < w1.heap.size := (hown g rfl).2
      have hcr : Hid (∀ k (hk : k < r.length), w1.cell? ⟨g, off + (2 + k) * 3 + 1, none⟩ = some (.int .i64 (r[k]'hk).n)) := Lib.hid (fun k hk => by
        have := (hcl (k + 2) (by simp; omega)).2.1
        rw [show off + (k + 2) * 3 + 1 = off + (2 + k) * 3 + 1 by omega] at this
        exact this)
      have hob : Hid (∀ k (hk : k < r.length), w1.cell? ⟨g, off + (2 + k) * 3 + 2, none⟩ = some (.string ⟨(r[k]'hk).s.toArray⟩)) := Lib.hid (fun k hk => by
        have := (hcl (k + 2) (by simp; omega)).2.2
        rw [show off + (k + 2) * 3 + 2 = off + (2 + k) * 3 + 2 by omega] at this
        exact this)
      clear hcl hown hP
      have hok2 : Hid (q.s.length ≤ 128 ∧ ∀ x ∈ r, i64Ok x.n ∧ x.s.length ≤ 128) := Lib.hid ⟨(hok.out q (by simp)).2, fun x hx => hok.out x (by simp [hx])⟩
      clear hok
      generalize p.s = ps at *
      generalize (p :: q :: r).length = m at *
      have hn0 : (0 : Int) < (m : Int) := by omega
      have hn1 : (1 : Int) < (m : Int) := by omega
      replace hlen := Lib.hid hlen
      have hb0 := heap_alloc_new w1 (.cells #[.int .i64 0, .string ⟨#[]⟩, .string ⟨#[]⟩, .slice none 0 0] 25)
      have hU0 := (Upd.refl Non w1).then_alloc (.cells #[.int .i64 0, .string ⟨#[]⟩, .string ⟨#[]⟩, .slice none 0 0] 25)
      have hk1 : kkOf kd ((1 : Nat) : Int) = 0 := by unfold kkOf; split <;> omega
      replace hkb := Lib.hid hkb
      go_wp2_with fail
      generalize hgk : w1.heap.size = gk at *
      have hgg : g < gk := hgl
      go_loopw [7] (fun i wr => ∃ j : Nat, 1 ≤ j ∧ j ≤ 7 ∧ i = .int .i64 (j : Int) ∧ wr.heap[gk]? = some (.cells #[.int .i64 (kkOf kd j), .string ⟨#[]⟩, .string ⟨#[]⟩, .slice none 0 0] 25 (0, 0)) ∧ Upd Non w1 wr) (fun i _ => 7 - (intOf i).toNat)
      case atStart => exact ⟨1, by omega, by omega, rfl, by rw [hk1]; exact hb0, hU0⟩
      case round =>
        clear hb0 hU0
        obtain ⟨j, hj1, hj7, rfl, hb, hU⟩ := hrel
        by_cases hlt : j ≤ 6
        · have hjI : (j : Int) ≤ 6 := by omega
          have hls := letter_sub (j : Int) ⟨by omega, by omega⟩
          have y0' := hU.cell y0 fun h => h
          by_cases hkj : kd = j
          · obtain rfl := hke.out j (by omega) hkj
            have zc := (cells_of hb).1 0
            have zf := (cells_of hb).2 0
            have hk2 : kkOf kd ((j + 1 : Nat) : Int) = j := by unfold kkOf; split <;> omega
            replace hkj := Lib.hid hkj
            go_wp2_with fail
            go_quiet (fail)
            go_wp2_with fail
            go_roundw
            case rel => exact ⟨j + 1, by omega, by omega, by go_num, by rw [hk2]; exact set_blk (w := wr.drewN _) hb _, (hU.then_drewN _).then_setCell (fun h => absurd h (by show ¬ gk < w1.heap.size; omega)) _⟩
            case measure => simp [intOf]; omega
          · have hne := hkn.out j (by omega) (by omega) hkj
            have hk2 : kkOf kd ((j + 1 : Nat) : Int) = kkOf kd j := by unfold kkOf; split <;> split <;> omega
            replace hkj := Lib.hid hkj
            go_wp2_with fail
            go_quiet (fail)
            go_wp2_with fail
            go_roundw
            case rel => exact ⟨j + 1, by omega, by omega, by go_num, by rw [hk2]; exact hb, hU.then_drewN _⟩
            case measure => simp [intOf]; omega
        · have hl7 : ¬ (j : Int) ≤ 6 := by omega
          have hk7 : kkOf kd (j : Int) = kd := by have := hkb.out; unfold kkOf; rw [if_pos (by omega)]
          rw [hk7] at hb
          clear hk7 hj1 hj7 hlt
          generalize (j : Int) = i7 at *
          have y1' := hU.cell y1 fun h => h
          have zc := (cells_of hb).1 1
          have zf := (cells_of hb).2 1
          have hbS := set_blk (j := 1) hb (.string ⟨q.s.toArray⟩)
          have hUS : Upd Non w1 (wr.setCell ⟨gk, 1, none⟩ (.string ⟨q.s.toArray⟩)) := hU.then_setCell (fun h => absurd h (by show ¬ gk < w1.heap.size; omega)) _
          have e0 := (cells_of hbS).1 0
          clear hb hU
          have hq128 := Lib.hid hok2.out.1
          have hok3 := Lib.hid hok2.out.2
          clear hok2 hke hkn
          by_cases hB : 1 < kd ∧ 0 < r.length
          · obtain ⟨hg1, hr0⟩ := hB
            rcases r with _ | ⟨u, r⟩
            · exact absurd hr0 (by simp)
            · have hkf : kyQ kd q.s (u :: r) = ⟨kd, q.s, u.s, r.map (·.n)⟩ := by
                unfold kyQ
                simp [hg1]
              rw [hkf] at hyes hnoq
              have hno := hnoq
              clear hnoq hkf hr0
              replace hlen : Hid (m = r.length + 3) := Lib.hid (by have := hlen.out; simp only [List.length_cons] at this; omega)
              replace hfew : Hid (r.length + 2 ≤ 128) := Lib.hid (by have := hfew.out; simp only [List.length_cons] at this; omega)
              have hu128 : Hid (u.s.length ≤ 128) := Lib.hid (hok3.out u (by simp)).2
              replace hok3 : Hid (∀ x ∈ r, i64Ok x.n ∧ x.s.length ≤ 128) := Lib.hid (fun x hx => hok3.out x (by simp [hx]))
              have hc2 : Hid (∀ k (hk : k < r.length), w1.cell? ⟨g, off + (3 + k) * 3 + 1, none⟩ = some (.int .i64 (r[k]'hk).n)) := Lib.hid (fun k hk => by
                have := hcr.out (k + 1) (by simp; omega)
                rw [show off + (2 + (k + 1)) * 3 + 1 = off + (3 + k) * 3 + 1 by omega] at this
                exact this)
              have y2 : (wr.setCell ⟨gk, 1, none⟩ (.string ⟨q.s.toArray⟩)).cell? ⟨g, off + 8, none⟩ = some (.string ⟨u.s.toArray⟩) := hUS.cell (hob.out 0 (by simp)) fun h => h
              clear hcr hob
              have hg2 : (2 : Int) < (m : Int) := by have := hlen.out; omega
              have zc2 := (cells_of hbS).1 2
              have zf2 := (cells_of hbS).2 2
              have hbT := set_blk (j := 2) hbS (.string ⟨u.s.toArray⟩)
              have hUT : Upd Non w1 ((wr.setCell ⟨gk, 1, none⟩ (.string ⟨q.s.toArray⟩)).setCell ⟨gk, 2, none⟩ (.string ⟨u.s.toArray⟩)) := hUS.then_setCell (fun h => absurd h (by show ¬ gk < w1.heap.size; omega)) _
              clear hbS hUS
              obtain ⟨hbS, hUS⟩ := And.intro hbT hUT
              clear hbT hUT
              generalize u.s = us at *
              go_wp2_with fail
              clear y2 zc2 zf2
              obtain ⟨hb3, hUn⟩ := And.intro hbS hUS
              clear hbS hUS e0 zc zf y0 y1 y1'
              go_loopw [9] (fun i wr => ∃ (j i1 : Nat) (nv : Value), i1 = 3 + j ∧ j ≤ r.length ∧ i = .int .i64 (i1 : Int) ∧ wr.heap[gk]? = some (.cells #[.int .i64 kd, .string ⟨q.s.toArray⟩, .string ⟨us.toArray⟩, nv] 25 (0, 0)) ∧ OwnI wr w1.heap.size nv ((r.map (·.n)).take j) ∧ Upd Non w1 wr) (fun i _ => 3 + r.length - (intOf i).toNat)
              case atStart => exact ⟨0, 3, .slice none 0 0, rfl, by omega, rfl, hb3, World.ownsRow_nil _ _ _ _, hUn⟩
              case round =>
                clear hb3 hUn
                obtain ⟨j, i1, nv, hij, hj, rfl, hb3, ho, hU⟩ := hrel
                have hze : wr.cell? ⟨gk, 3, none⟩ = some nv := (cells_of hb3).1 3
                by_cases hlt : j < r.length
                · have d1 : wr.cell? ⟨g, off + i1 * 3 + 1, none⟩ = some (.int .i64 (r[j]'hlt).n) := hU.cell (by have := hc2.out j hlt; rw [hij]; exact this) fun h => h
                  have ht := Lib.hid (take_n r j hlt)
                  generalize hun : (r[j]'hlt).n = un at *
                  have hjm : i1 < m := by have := hlen.out; omega
                  have hlm : (i1 : Int) < (m : Int) := by omega
                  have V1 := (((Upd.refl Non wr).then_alloc (.cells #[.int .i64 un] 3)).then_drew).cell d1 fun h => h
                  have hsz := hU.size
                  have hl := hfew.out
                  have hmm := hlen.out
                  have hcc : ((r.map (·.n)).take j).length = j := by rw [List.length_take, List.length_map]; omega
                  have hcm2 : j < 200 := by omega
                  replace hij := Lib.hid hij
                  replace hmm := Lib.hid hmm
                  go_wp2_with fail
                  refine wp_region_held_drew (S := (fun w' => w'.cell? ⟨g, off + i1 * 3 + 1, none⟩ = some (.int .i64 un))) (by kernel_rfl) (by exact (Upd.drew Non wr).cell d1 fun h => h) (fun hHeld => ?_)
                  (refine wpAnyH_take (i := 0) (oi := ?oi_qc1) (v := ?v_qc1) ?ho_qc1 ?hs_qc1 ?hf_qc1 ?hr_qc1 ?hQ_qc1 ?hy_qc1 ?hS_qc1 ?rest_qc1; (case hr_qc1 => kernel_rfl); (case hf_qc1 => kernel_rfl); (case hs_qc1 => kernel_rfl); (case ho_qc1 => (simp only [List.getElem?_toArray, List.getElem?_cons_succ, List.getElem?_cons_zero]; rfl)); (case hS_qc1 => assumption); (case hQ_qc1 => exact fun _ _ _ h => h); (case hy_qc1 => (refine Or.inl ⟨by rfl, ?_⟩; (intro w hSw; have x0 : _ = some _ := hSw; go_simp) <;> with_reducible rfl)); (try simp only [Act.put, List.setIfInBounds_toArray, List.set_cons_zero, List.set_cons_succ]))
                  (refine wpAnyH_take (i := 2) (oi := ?oi_qc2) (v := ?v_qc2) ?ho_qc2 ?hs_qc2 ?hf_qc2 ?hr_qc2 ?hQ_qc2 ?hy_qc2 ?hS_qc2 ?rest_qc2; (case hr_qc2 => kernel_rfl); (case hf_qc2 => kernel_rfl); (case hs_qc2 => kernel_rfl); (case ho_qc2 => (simp only [List.getElem?_toArray, List.getElem?_cons_succ, List.getElem?_cons_zero]; rfl)); (case hS_qc2 => assumption); (case hQ_qc2 => exact fun _ _ _ h => h); (case hy_qc2 => (refine Or.inl ⟨by rfl, ?_⟩; (intro w hSw; have x0 : _ = some _ := hSw; go_simp) <;> with_reducible rfl)); (try simp only [Act.put, List.setIfInBounds_toArray, List.set_cons_zero, List.set_cons_succ]))
                  (refine wpAnyH_take (i := 3) (oi := ?oi_qc3) (v := ?v_qc3) ?ho_qc3 ?hs_qc3 ?hf_qc3 ?hr_qc3 ?hQ_qc3 ?hy_qc3 ?hS_qc3 ?rest_qc3; (case hr_qc3 => kernel_rfl); (case hf_qc3 => kernel_rfl); (case hs_qc3 => kernel_rfl); (case ho_qc3 => (simp only [List.getElem?_toArray, List.getElem?_cons_succ, List.getElem?_cons_zero]; rfl)); (case hS_qc3 => assumption); (case hQ_qc3 => exact fun _ _ _ h => h); (case hy_qc3 => (refine Or.inl ⟨by rfl, ?_⟩; (intro w hSw; have x0 : _ = some _ := hSw; go_simp) <;> with_reducible rfl)); (try simp only [Act.put, List.setIfInBounds_toArray, List.set_cons_zero, List.set_cons_succ]))
                  (refine wpAnyH_take (i := 4) (oi := ?oi_qc4) (v := ?v_qc4) ?ho_qc4 ?hs_qc4 ?hf_qc4 ?hr_qc4 ?hQ_qc4 ?hy_qc4 ?hS_qc4 ?rest_qc4; (case hr_qc4 => kernel_rfl); (case hf_qc4 => kernel_rfl); (case hs_qc4 => kernel_rfl); (case ho_qc4 => (simp only [List.getElem?_toArray, List.getElem?_cons_succ, List.getElem?_cons_zero]; rfl)); (case hS_qc4 => assumption); (case hQ_qc4 => exact fun _ _ _ h => h); (case hy_qc4 => (refine Or.inl ⟨by rfl, ?_⟩; (intro w hSw; have x0 : _ = some _ := hSw; go_simp) <;> with_reducible rfl)); (try simp only [Act.put, List.setIfInBounds_toArray, List.set_cons_zero, List.set_cons_succ]))
                  (refine wpAnyH_take (i := 5) (oi := ?oi_qc5) (v := ?v_qc5) ?ho_qc5 ?hs_qc5 ?hf_qc5 ?hr_qc5 ?hQ_qc5 ?hy_qc5 ?hS_qc5 ?rest_qc5; (case hr_qc5 => kernel_rfl); (case hf_qc5 => kernel_rfl); (case hs_qc5 => kernel_rfl); (case ho_qc5 => (simp only [List.getElem?_toArray, List.getElem?_cons_succ, List.getElem?_cons_zero]; rfl)); (case hS_qc5 => assumption); (case hQ_qc5 => exact fun _ _ _ h => h); (case hy_qc5 => (refine Or.inl ⟨by rfl, ?_⟩; (intro w hSw; have x0 : _ = some _ := hSw; go_simp) <;> with_reducible rfl)); (try simp only [Act.put, List.setIfInBounds_toArray, List.set_cons_zero, List.set_cons_succ]))
                  (refine wpAnyH_take (i := 6) (oi := ?oi_qc6) (v := ?v_qc6) ?ho_qc6 ?hs_qc6 ?hf_qc6 ?hr_qc6 ?hQ_qc6 ?hy_qc6 ?hS_qc6 ?rest_qc6; (case hr_qc6 => kernel_rfl); (case hf_qc6 => kernel_rfl); (case hs_qc6 => kernel_rfl); (case ho_qc6 => (simp only [List.getElem?_toArray, List.getElem?_cons_succ, List.getElem?_cons_zero]; rfl)); (case hS_qc6 => assumption); (case hQ_qc6 => exact fun _ _ _ h => h); (case hy_qc6 => (refine Or.inl ⟨by rfl, ?_⟩; (intro w hSw; have x0 : _ = some _ := hSw; go_simp) <;> with_reducible rfl)); (try simp only [Act.put, List.setIfInBounds_toArray, List.set_cons_zero, List.set_cons_succ]))
                  refine wpAnyH_ready (rs := [1, 7]) (by kernel_rfl) (by simp) ?_
                  refine (AllReadyH.cons (o := ?ooqc7_0) ?hoqc7_0 ?hsqc7_0 (AllReadyH.cons (o := ?ooqc7_1) ?hoqc7_1 ?hsqc7_1 AllReadyH.nil))
                  case hoqc7_0 => (simp only [List.getElem?_toArray, List.getElem?_cons_succ, List.getElem?_cons_zero]; rfl)
                  case hoqc7_1 => (simp only [List.getElem?_toArray, List.getElem?_cons_succ, List.getElem?_cons_zero]; rfl)
                  case hsqc7_0 =>
                    have hz2 := (Upd.drew Non wr).cell hze fun h => h
                    intro K hK
                    go_simp
                    try go_wp2_with fail
                    refine hK.out _ _ (by exact (Upd.drew Non wr).cell d1 fun h => h) (fun hHeld => ?_)
                    clear hK K
                    try simp only [Act.put, List.setIfInBounds_toArray, List.set_cons_zero, List.set_cons_succ]
                    refine wpAnyH_ready (rs := [7]) (by kernel_rfl) (by simp) ?_
                    refine (AllReadyH.cons (o := ?ooqc8_0) ?hoqc8_0 ?hsqc8_0 AllReadyH.nil)
                    case hoqc8_0 => (simp only [List.getElem?_toArray, List.getElem?_cons_succ, List.getElem?_cons_zero]; rfl)
                    case hsqc8_0 =>
                      intro K hK
                      go_simp
                      try go_wp2_with fail
                      refine hK.out _ _ (by exact V1) (fun hHeld => ?_)
                      clear hK K
                      try simp only [Act.put, List.setIfInBounds_toArray, List.set_cons_zero, List.set_cons_succ]
                      refine wpAnyH_ready (rs := [8]) (by kernel_rfl) (by simp) ?_
                      refine (AllReadyH.cons (o := ?ooqc9_0) ?hoqc9_0 ?hsqc9_0 AllReadyH.nil)
                      case hoqc9_0 => (simp only [List.getElem?_toArray, List.getElem?_cons_succ, List.getElem?_cons_zero]; rfl)
                      case hsqc9_0 =>
                        intro K hK
                        go_must (refine step_app1 rfl _ _ 23 rfl w1.heap.size 3 (.int .i64 0) 1 8 Tryd.underlying23 hi3.out rfl _ _ _ rfl ho [.int .i64 un] wr.heap.size rfl rfl rfl (ics_one [un]) (by unfold maxLen; omega) (by omega) (by omega) ?_)
                        intro v3 w3 ho3 hu3 hf3
                        obtain ⟨vn, va, vc, rfl⟩ : ∃ n a c, v3 = .slice a n c := by obtain ⟨_, a, c, e, _⟩ := has_of_owns ho3; exact ⟨_, a, c, e⟩
                        have hnt := own_not ho hb3 (by decide)
                        have hby := hu3.heap hb3 hnt
                        have ho4 := own_ints ho3 (by omega)
                        have hU3 : Upd Non w1 w3 := hU.trans hu3 fun k hk h => by have := own_ge ho h; omega
                        have hn3 := own_not ho4 hby (by decide)
                        have V3 : w3.cell? ⟨g, off + i1 * 3 + 1, none⟩ = some (.int .i64 un) := hu3.cell d1 (fun h => by have := own_ge ho h; (try dsimp only at this) <;> omega)
                        refine hK.out _ _ (by exact V3) (fun hHeld => ?_)
                        clear hK K
                        try simp only [Act.put, List.setIfInBounds_toArray, List.set_cons_zero, List.set_cons_succ]
                        refine wpAnyH_ready (rs := [9]) (by kernel_rfl) (by simp) ?_
                        refine (AllReadyH.cons (o := ?ooqc10_0) ?hoqc10_0 ?hsqc10_0 AllReadyH.nil)
                        case hoqc10_0 => (simp only [List.getElem?_toArray, List.getElem?_cons_succ, List.getElem?_cons_zero]; rfl)
                        case hsqc10_0 =>
                          intro K hK
                          go_simp
                          try go_wp2_with fail
                          refine hK.out _ _ (by exact V3) (fun hHeld => ?_)
                          clear hK K
                          try simp only [Act.put, List.setIfInBounds_toArray, List.set_cons_zero, List.set_cons_succ]
                          refine wpAnyH_ready (rs := [10]) (by kernel_rfl) (by simp) ?_
                          refine (AllReadyH.cons (o := ?ooqc11_0) ?hoqc11_0 ?hsqc11_0 AllReadyH.nil)
                          case hoqc11_0 => (simp only [List.getElem?_toArray, List.getElem?_cons_succ, List.getElem?_cons_zero]; rfl)
                          case hsqc11_0 =>
                            intro K hK
                            obtain ⟨x0, x3⟩ : (∀ i, w3.cell? ⟨gk, i, none⟩ = _) ∧ ∀ i, w3.frozen? ⟨gk, i, none⟩ = false := cells_of hby
                            have x1 := x0 3
                            have x2 := x3 3
                            have V4 : (w3.setCell ⟨gk, 3, none⟩ (.slice va vn vc)).cell? ⟨g, off + i1 * 3 + 1, none⟩ = some (.int .i64 un) := (Upd.setCell (S := fun k => k = gk) w3 rfl _).cell V3 (fun h => by (have : g = gk := h); omega)
                            clear x0 x3
                            go_simp
                            try go_wp2_with fail
                            refine hK.out _ _ (by exact V4) (fun hHeld => ?_)
                            clear hK K
                            try simp only [Act.put, List.setIfInBounds_toArray, List.set_cons_zero, List.set_cons_succ]
                            refine wpAnyH_done (by kernel_rfl) ?_ _
                            clear hHeld x1 x2 V4 V3 V1 hze hb3
                            go_wp2_with fail
                            go_roundw
                            case rel => exact ⟨j + 1, i1 + 1, _, by have := hij.out; omega, by omega, by go_num, set_blk hby _, by rw [ht.out]; exact (Upd.setCell (S := fun k => k = gk) w3 rfl _).owns ho4 (fun k hk e => hn3 (e ▸ hk)), hU3.then_setCell (fun h => absurd h (by show ¬ gk < w1.heap.size; omega)) _⟩
                            case measure => have := hij.out; simp [intOf]; omega
                  case hsqc7_1 =>
                    intro K hK
                    go_simp
                    try go_wp2_with fail
                    refine hK.out _ _ (by exact V1) (fun hHeld => ?_)
                    clear hK K
                    try simp only [Act.put, List.setIfInBounds_toArray, List.set_cons_zero, List.set_cons_succ]
                    have hz2 := (((Upd.refl Non wr).then_alloc (.cells #[.int .i64 un] 3)).then_drew).cell hze fun h => h
                    refine wpAnyH_ready (rs := [1]) (by kernel_rfl) (by simp) ?_
                    refine (AllReadyH.cons (o := ?ooqc12_0) ?hoqc12_0 ?hsqc12_0 AllReadyH.nil)
                    case hoqc12_0 => (simp only [List.getElem?_toArray, List.getElem?_cons_succ, List.getElem?_cons_zero]; rfl)
                    case hsqc12_0 =>
                      intro K hK
                      go_simp
                      try go_wp2_with fail
                      refine hK.out _ _ (by exact V1) (fun hHeld => ?_)
                      clear hK K
                      try simp only [Act.put, List.setIfInBounds_toArray, List.set_cons_zero, List.set_cons_succ]
                      refine wpAnyH_ready (rs := [8]) (by kernel_rfl) (by simp) ?_
                      refine (AllReadyH.cons (o := ?ooqc13_0) ?hoqc13_0 ?hsqc13_0 AllReadyH.nil)
                      case hoqc13_0 => (simp only [List.getElem?_toArray, List.getElem?_cons_succ, List.getElem?_cons_zero]; rfl)
                      case hsqc13_0 =>
                        intro K hK
                        go_must (refine step_app1 rfl _ _ 23 rfl w1.heap.size 3 (.int .i64 0) 1 8 Tryd.underlying23 hi3.out rfl _ _ _ rfl ho [.int .i64 un] wr.heap.size rfl rfl rfl (ics_one [un]) (by unfold maxLen; omega) (by omega) (by omega) ?_)
                        intro v3 w3 ho3 hu3 hf3
                        obtain ⟨vn, va, vc, rfl⟩ : ∃ n a c, v3 = .slice a n c := by obtain ⟨_, a, c, e, _⟩ := has_of_owns ho3; exact ⟨_, a, c, e⟩
                        have hnt := own_not ho hb3 (by decide)
                        have hby := hu3.heap hb3 hnt
                        have ho4 := own_ints ho3 (by omega)
                        have hU3 : Upd Non w1 w3 := hU.trans hu3 fun k hk h => by have := own_ge ho h; omega
                        have hn3 := own_not ho4 hby (by decide)
                        have V3 : w3.cell? ⟨g, off + i1 * 3 + 1, none⟩ = some (.int .i64 un) := hu3.cell d1 (fun h => by have := own_ge ho h; (try dsimp only at this) <;> omega)
                        refine hK.out _ _ (by exact V3) (fun hHeld => ?_)
                        clear hK K
                        try simp only [Act.put, List.setIfInBounds_toArray, List.set_cons_zero, List.set_cons_succ]
                        refine wpAnyH_ready (rs := [9]) (by kernel_rfl) (by simp) ?_
                        refine (AllReadyH.cons (o := ?ooqc14_0) ?hoqc14_0 ?hsqc14_0 AllReadyH.nil)
                        case hoqc14_0 => (simp only [List.getElem?_toArray, List.getElem?_cons_succ, List.getElem?_cons_zero]; rfl)
                        case hsqc14_0 =>
                          intro K hK
                          go_simp
                          try go_wp2_with fail
                          refine hK.out _ _ (by exact V3) (fun hHeld => ?_)
                          clear hK K
                          try simp only [Act.put, List.setIfInBounds_toArray, List.set_cons_zero, List.set_cons_succ]
                          refine wpAnyH_ready (rs := [10]) (by kernel_rfl) (by simp) ?_
                          refine (AllReadyH.cons (o := ?ooqc15_0) ?hoqc15_0 ?hsqc15_0 AllReadyH.nil)
                          case hoqc15_0 => (simp only [List.getElem?_toArray, List.getElem?_cons_succ, List.getElem?_cons_zero]; rfl)
                          case hsqc15_0 =>
                            intro K hK
                            obtain ⟨x0, x3⟩ : (∀ i, w3.cell? ⟨gk, i, none⟩ = _) ∧ ∀ i, w3.frozen? ⟨gk, i, none⟩ = false := cells_of hby
                            have x1 := x0 3
                            have x2 := x3 3
                            have V4 : (w3.setCell ⟨gk, 3, none⟩ (.slice va vn vc)).cell? ⟨g, off + i1 * 3 + 1, none⟩ = some (.int .i64 un) := (Upd.setCell (S := fun k => k = gk) w3 rfl _).cell V3 (fun h => by (have : g = gk := h); omega)
                            clear x0 x3
                            go_simp
                            try go_wp2_with fail
                            refine hK.out _ _ (by exact V4) (fun hHeld => ?_)
                            clear hK K
                            try simp only [Act.put, List.setIfInBounds_toArray, List.set_cons_zero, List.set_cons_succ]
                            refine wpAnyH_done (by kernel_rfl) ?_ _
                            clear hHeld x1 x2 V4 V3 V1 hze hb3
                            go_wp2_with fail
                            go_roundw
                            case rel => exact ⟨j + 1, i1 + 1, _, by have := hij.out; omega, by omega, by go_num, set_blk hby _, by rw [ht.out]; exact (Upd.setCell (S := fun k => k = gk) w3 rfl _).owns ho4 (fun k hk e => hn3 (e ▸ hk)), hU3.then_setCell (fun h => absurd h (by show ¬ gk < w1.heap.size; omega)) _⟩
                            case measure => have := hij.out; simp [intOf]; omega
                · obtain rfl : j = r.length := by omega
                  have hlm : ¬ (i1 : Int) < (m : Int) := by have := hlen.out; omega
                  replace hij := Lib.hid hij
                  rw [List.take_of_length_le (by simp)] at ho
                  have hI : Ints wr nv (r.map (·.n)) := has_of_owns ho
                  obtain ⟨na, nc, rfl⟩ : ∃ a c, nv = .slice a (r.map (·.n)).length c := by obtain ⟨_, a, c, e, _⟩ := hI; exact ⟨a, c, e⟩
                  have hK := q21Key ⟨kd, q.s, us, r.map (·.n)⟩ _ wr hI (fun n hn => by obtain ⟨u, hu, rfl⟩ := List.mem_map.1 hn; exact (hok3.out u hu).1) (by have := hq128.out; show q.s.length ≤ _; omega) (by (have := hu128.out; show us.length ≤ _; omega))
                  obtain ⟨⟨t, ke⟩, hkr⟩ : ∃ z, keyR ⟨kd, q.s, us, r.map (·.n)⟩ = z := ⟨_, rfl⟩
                  rw [hkr] at hK hyes hno
                  unfold kyV txtV at hK
                  simp only at hK
                  replace hK := Lib.hid hK
                  replace hkr := Lib.hid hkr
                  generalize hnl : (r.map (·.n)).length = nl at *
                  have z0 := (cells_of hb3).1 0
                  have z1 := (cells_of hb3).1 1
                  have z2 := (cells_of hb3).1 2
                  have hnvb : ∀ k, At (.slice na nl nc) k → ¬ k = w.heap.size := fun k hk e => by have h1 := own_ge ho hk; have h2 := (hX.own1 (fun _ h => h.elim)).2.2.1; omega
                  replace hnvb := Lib.hid hnvb
                  clear ho
                  go_wp2_with fail
                  refine hK.out.mono ?_
                  rintro e5 w5 ⟨rfl, hu5⟩
                  have hX : Upd Non (w.alloc (.cells #[.int .i64 0, .string ⟨#[]⟩, .string ⟨#[]⟩, .slice none 0 0] 25)) w5 := hX.trans (hU.trans hu5 fun _ _ h => h) fun _ _ h => h
                  have hb5 := hu5.heap hb3 fun h => h
                  have hI5 := hI.upd hu5 fun _ _ h => h
                  clear z0 z1 z2 hze hb3 hu5 hI hU hK
                  by_cases hke : ke = 0
                  · subst hke
                    by_cases hts : t = s
                    · subst hts
                      obtain rfl := hyes.out rfl
                      obtain ⟨z0, z1, z2, z3⟩ := cells4 hb5
                      have hb := hX.heap (heap_alloc_new w _) fun h => h
                      have hU := (hX.own1 (fun _ h => h.elim)).2.2.2
                      clear hX hb5
                      go_wp2_with ((with_reducible (show wpList _ _ _ (⟨_, Op.store _ _ _, _, _, _, _⟩ :: _) _ _)); refine storeB_list rfl 25 _ _ rfl w.heap.size #[.int .i64 kd, .string ⟨q.s.toArray⟩, .string ⟨us.toArray⟩, .slice na nl nc] _ _ rfl rfl hb rfl size_key.out (by simp [Value.oneCell']) ?_)
                      intro w8 hb8 hu8
                      obtain ⟨x0, x1, x2, x3⟩ := cells4 hb8
                      have hU8 := hU.trans hu8 (fun k hk e => by (have : k = w.heap.size := e); omega)
                      have hI8 := hI5.upd hu8 hnvb.out
                      clear hb hb8 hu8 hU z0 z1 z2 z3 hI5
                      go_wp2_with fail
                      refine bodyPost_ret (v := .tuple #[.agg #[.int .i64 kd, .string ⟨q.s.toArray⟩, .string ⟨us.toArray⟩, .slice na nl nc], .int .i64 0]) (by simp [results, Tryd.results15, go_sem, x0, x1, x2, x3]; try rfl) rfl ⟨_, rfl, hI8, hU8⟩
                    · obtain rfl := hno.out (fun h => hts (by injection h))
                      have hts2 : (t == s) = false := by simpa using hts
                      clear hb5 hI5
                      have hb := hX.heap (heap_alloc_new w _) fun h => h
                      have hU := (hX.own1 (fun _ h => h.elim)).2.2.2
                      clear hX
                      try simp only []
                      go_wp2_with ((with_reducible (show wpList _ _ _ (⟨_, Op.store _ _ _, _, _, _, _⟩ :: _) _ _)); refine storeB_list rfl 25 _ _ rfl w.heap.size #[.int .i64 0, .string ⟨#[]⟩, .string ⟨#[]⟩, .slice none 0 0] _ _ rfl rfl hb rfl size_key.out (by simp [Value.oneCell']) ?_)
                      intro w8 hb8 hu8
                      obtain ⟨x0, x1, x2, x3⟩ := cells4 hb8
                      have hU8 := hU.trans hu8 (fun k hk e => by (have : k = w.heap.size := e); omega)
                      clear hb hb8 hu8 hU
                      go_wp2_with fail
                      refine bodyPost_ret (v := .tuple #[.agg #[.int .i64 0, .string ⟨#[]⟩, .string ⟨#[]⟩, .slice none 0 0], .int .i64 4]) (by simp [results, Tryd.results15, go_sem, x0, x1, x2, x3]; try rfl) rfl ⟨_, rfl, Has.nil _ _, hU8⟩
                  · obtain rfl := hno.out (fun h => hke (by injection h))
                    have hke2 : (ke != 0) = true := by simp [hke]
                    clear hb5 hI5
                    have hb := hX.heap (heap_alloc_new w _) fun h => h
                    have hU := (hX.own1 (fun _ h => h.elim)).2.2.2
                    clear hX
                    try simp only []
                    go_wp2_with ((with_reducible (show wpList _ _ _ (⟨_, Op.store _ _ _, _, _, _, _⟩ :: _) _ _)); refine storeB_list rfl 25 _ _ rfl w.heap.size #[.int .i64 0, .string ⟨#[]⟩, .string ⟨#[]⟩, .slice none 0 0] _ _ rfl rfl hb rfl size_key.out (by simp [Value.oneCell']) ?_)
                    intro w8 hb8 hu8
                    obtain ⟨x0, x1, x2, x3⟩ := cells4 hb8
                    have hU8 := hU.trans hu8 (fun k hk e => by (have : k = w.heap.size := e); omega)
                    clear hb hb8 hu8 hU
                    go_wp2_with fail
                    refine bodyPost_ret (v := .tuple #[.agg #[.int .i64 0, .string ⟨#[]⟩, .string ⟨#[]⟩, .slice none 0 0], .int .i64 4]) (by simp [results, Tryd.results15, go_sem, x0, x1, x2, x3]; try rfl) rfl ⟨_, rfl, Has.nil _ _, hU8⟩
          · have hkf : kyQ kd q.s r = ⟨kd, q.s, [], r.map (·.n)⟩ := by
              unfold kyQ
              cases r with
              | nil => rfl
              | cons u r =>
                have : ¬ 1 < kd := fun h => hB ⟨h, by simp⟩
                simp [this]
            rw [hkf] at hyes hnoq
            have hno := hnoq
            clear hnoq hkf
            have hob := trivial
            by_cases hg1 : 1 < kd
            · have hg2 : ¬ (2 : Int) < (m : Int) := by have := hlen.out; omega
              replace hB := Lib.hid hB
              go_wp2_with fail
              obtain ⟨hb3, hUn⟩ := And.intro hbS hUS
              clear hbS hUS e0 zc zf y0 y1 y1'
              go_loopw [9] (fun i wr => ∃ (j i1 : Nat) (nv : Value), i1 = 2 + j ∧ j ≤ r.length ∧ i = .int .i64 (i1 : Int) ∧ wr.heap[gk]? = some (.cells #[.int .i64 kd, .string ⟨q.s.toArray⟩, .string ⟨#[]⟩, nv] 25 (0, 0)) ∧ OwnI wr w1.heap.size nv ((r.map (·.n)).take j) ∧ Upd Non w1 wr) (fun i _ => 2 + r.length - (intOf i).toNat)
              case atStart => exact ⟨0, 2, .slice none 0 0, rfl, by omega, rfl, hb3, World.ownsRow_nil _ _ _ _, hUn⟩
              case round =>
                clear hb3 hUn
                obtain ⟨j, i1, nv, hij, hj, rfl, hb3, ho, hU⟩ := hrel
                have hze : wr.cell? ⟨gk, 3, none⟩ = some nv := (cells_of hb3).1 3
                by_cases hlt : j < r.length
                · have d1 : wr.cell? ⟨g, off + i1 * 3 + 1, none⟩ = some (.int .i64 (r[j]'hlt).n) := hU.cell (by have := hcr.out j hlt; rw [hij]; exact this) fun h => h
                  have ht := Lib.hid (take_n r j hlt)
                  generalize hun : (r[j]'hlt).n = un at *
                  have hjm : i1 < m := by have := hlen.out; omega
                  have hlm : (i1 : Int) < (m : Int) := by omega
                  have V1 := (((Upd.refl Non wr).then_alloc (.cells #[.int .i64 un] 3)).then_drew).cell d1 fun h => h
                  have hsz := hU.size
                  have hl := hfew.out
                  have hmm := hlen.out
                  have hcc : ((r.map (·.n)).take j).length = j := by rw [List.length_take, List.length_map]; omega
                  have hcm2 : j < 200 := by omega
                  replace hij := Lib.hid hij
                  replace hmm := Lib.hid hmm
                  go_wp2_with fail
                  refine wp_region_held_drew (S := (fun w' => w'.cell? ⟨g, off + i1 * 3 + 1, none⟩ = some (.int .i64 un))) (by kernel_rfl) (by exact (Upd.drew Non wr).cell d1 fun h => h) (fun hHeld => ?_)
                  (refine wpAnyH_take (i := 0) (oi := ?oi_qa1) (v := ?v_qa1) ?ho_qa1 ?hs_qa1 ?hf_qa1 ?hr_qa1 ?hQ_qa1 ?hy_qa1 ?hS_qa1 ?rest_qa1; (case hr_qa1 => kernel_rfl); (case hf_qa1 => kernel_rfl); (case hs_qa1 => kernel_rfl); (case ho_qa1 => (simp only [List.getElem?_toArray, List.getElem?_cons_succ, List.getElem?_cons_zero]; rfl)); (case hS_qa1 => assumption); (case hQ_qa1 => exact fun _ _ _ h => h); (case hy_qa1 => (refine Or.inl ⟨by rfl, ?_⟩; (intro w hSw; have x0 : _ = some _ := hSw; go_simp) <;> with_reducible rfl)); (try simp only [Act.put, List.setIfInBounds_toArray, List.set_cons_zero, List.set_cons_succ]))
                  (refine wpAnyH_take (i := 2) (oi := ?oi_qa2) (v := ?v_qa2) ?ho_qa2 ?hs_qa2 ?hf_qa2 ?hr_qa2 ?hQ_qa2 ?hy_qa2 ?hS_qa2 ?rest_qa2; (case hr_qa2 => kernel_rfl); (case hf_qa2 => kernel_rfl); (case hs_qa2 => kernel_rfl); (case ho_qa2 => (simp only [List.getElem?_toArray, List.getElem?_cons_succ, List.getElem?_cons_zero]; rfl)); (case hS_qa2 => assumption); (case hQ_qa2 => exact fun _ _ _ h => h); (case hy_qa2 => (refine Or.inl ⟨by rfl, ?_⟩; (intro w hSw; have x0 : _ = some _ := hSw; go_simp) <;> with_reducible rfl)); (try simp only [Act.put, List.setIfInBounds_toArray, List.set_cons_zero, List.set_cons_succ]))
                  (refine wpAnyH_take (i := 3) (oi := ?oi_qa3) (v := ?v_qa3) ?ho_qa3 ?hs_qa3 ?hf_qa3 ?hr_qa3 ?hQ_qa3 ?hy_qa3 ?hS_qa3 ?rest_qa3; (case hr_qa3 => kernel_rfl); (case hf_qa3 => kernel_rfl); (case hs_qa3 => kernel_rfl); (case ho_qa3 => (simp only [List.getElem?_toArray, List.getElem?_cons_succ, List.getElem?_cons_zero]; rfl)); (case hS_qa3 => assumption); (case hQ_qa3 => exact fun _ _ _ h => h); (case hy_qa3 => (refine Or.inl ⟨by rfl, ?_⟩; (intro w hSw; have x0 : _ = some _ := hSw; go_simp) <;> with_reducible rfl)); (try simp only [Act.put, List.setIfInBounds_toArray, List.set_cons_zero, List.set_cons_succ]))
                  (refine wpAnyH_take (i := 4) (oi := ?oi_qa4) (v := ?v_qa4) ?ho_qa4 ?hs_qa4 ?hf_qa4 ?hr_qa4 ?hQ_qa4 ?hy_qa4 ?hS_qa4 ?rest_qa4; (case hr_qa4 => kernel_rfl); (case hf_qa4 => kernel_rfl); (case hs_qa4 => kernel_rfl); (case ho_qa4 => (simp only [List.getElem?_toArray, List.getElem?_cons_succ, List.getElem?_cons_zero]; rfl)); (case hS_qa4 => assumption); (case hQ_qa4 => exact fun _ _ _ h => h); (case hy_qa4 => (refine Or.inl ⟨by rfl, ?_⟩; (intro w hSw; have x0 : _ = some _ := hSw; go_simp) <;> with_reducible rfl)); (try simp only [Act.put, List.setIfInBounds_toArray, List.set_cons_zero, List.set_cons_succ]))
                  (refine wpAnyH_take (i := 5) (oi := ?oi_qa5) (v := ?v_qa5) ?ho_qa5 ?hs_qa5 ?hf_qa5 ?hr_qa5 ?hQ_qa5 ?hy_qa5 ?hS_qa5 ?rest_qa5; (case hr_qa5 => kernel_rfl); (case hf_qa5 => kernel_rfl); (case hs_qa5 => kernel_rfl); (case ho_qa5 => (simp only [List.getElem?_toArray, List.getElem?_cons_succ, List.getElem?_cons_zero]; rfl)); (case hS_qa5 => assumption); (case hQ_qa5 => exact fun _ _ _ h => h); (case hy_qa5 => (refine Or.inl ⟨by rfl, ?_⟩; (intro w hSw; have x0 : _ = some _ := hSw; go_simp) <;> with_reducible rfl)); (try simp only [Act.put, List.setIfInBounds_toArray, List.set_cons_zero, List.set_cons_succ]))
                  (refine wpAnyH_take (i := 6) (oi := ?oi_qa6) (v := ?v_qa6) ?ho_qa6 ?hs_qa6 ?hf_qa6 ?hr_qa6 ?hQ_qa6 ?hy_qa6 ?hS_qa6 ?rest_qa6; (case hr_qa6 => kernel_rfl); (case hf_qa6 => kernel_rfl); (case hs_qa6 => kernel_rfl); (case ho_qa6 => (simp only [List.getElem?_toArray, List.getElem?_cons_succ, List.getElem?_cons_zero]; rfl)); (case hS_qa6 => assumption); (case hQ_qa6 => exact fun _ _ _ h => h); (case hy_qa6 => (refine Or.inl ⟨by rfl, ?_⟩; (intro w hSw; have x0 : _ = some _ := hSw; go_simp) <;> with_reducible rfl)); (try simp only [Act.put, List.setIfInBounds_toArray, List.set_cons_zero, List.set_cons_succ]))
                  refine wpAnyH_ready (rs := [1, 7]) (by kernel_rfl) (by simp) ?_
                  refine (AllReadyH.cons (o := ?ooqa7_0) ?hoqa7_0 ?hsqa7_0 (AllReadyH.cons (o := ?ooqa7_1) ?hoqa7_1 ?hsqa7_1 AllReadyH.nil))
                  case hoqa7_0 => (simp only [List.getElem?_toArray, List.getElem?_cons_succ, List.getElem?_cons_zero]; rfl)
                  case hoqa7_1 => (simp only [List.getElem?_toArray, List.getElem?_cons_succ, List.getElem?_cons_zero]; rfl)
                  case hsqa7_0 =>
                    have hz2 := (Upd.drew Non wr).cell hze fun h => h
                    intro K hK
                    go_simp
                    try go_wp2_with fail
                    refine hK.out _ _ (by exact (Upd.drew Non wr).cell d1 fun h => h) (fun hHeld => ?_)
                    clear hK K
                    try simp only [Act.put, List.setIfInBounds_toArray, List.set_cons_zero, List.set_cons_succ]
                    refine wpAnyH_ready (rs := [7]) (by kernel_rfl) (by simp) ?_
                    refine (AllReadyH.cons (o := ?ooqa8_0) ?hoqa8_0 ?hsqa8_0 AllReadyH.nil)
                    case hoqa8_0 => (simp only [List.getElem?_toArray, List.getElem?_cons_succ, List.getElem?_cons_zero]; rfl)
                    case hsqa8_0 =>
                      intro K hK
                      go_simp
                      try go_wp2_with fail
                      refine hK.out _ _ (by exact V1) (fun hHeld => ?_)
                      clear hK K
                      try simp only [Act.put, List.setIfInBounds_toArray, List.set_cons_zero, List.set_cons_succ]
                      refine wpAnyH_ready (rs := [8]) (by kernel_rfl) (by simp) ?_
                      refine (AllReadyH.cons (o := ?ooqa9_0) ?hoqa9_0 ?hsqa9_0 AllReadyH.nil)
                      case hoqa9_0 => (simp only [List.getElem?_toArray, List.getElem?_cons_succ, List.getElem?_cons_zero]; rfl)
                      case hsqa9_0 =>
                        intro K hK
                        go_must (refine step_app1 rfl _ _ 23 rfl w1.heap.size 3 (.int .i64 0) 1 8 Tryd.underlying23 hi3.out rfl _ _ _ rfl ho [.int .i64 un] wr.heap.size rfl rfl rfl (ics_one [un]) (by unfold maxLen; omega) (by omega) (by omega) ?_)
                        intro v3 w3 ho3 hu3 hf3
                        obtain ⟨vn, va, vc, rfl⟩ : ∃ n a c, v3 = .slice a n c := by obtain ⟨_, a, c, e, _⟩ := has_of_owns ho3; exact ⟨_, a, c, e⟩
                        have hnt := own_not ho hb3 (by decide)
                        have hby := hu3.heap hb3 hnt
                        have ho4 := own_ints ho3 (by omega)
                        have hU3 : Upd Non w1 w3 := hU.trans hu3 fun k hk h => by have := own_ge ho h; omega
                        have hn3 := own_not ho4 hby (by decide)
                        have V3 : w3.cell? ⟨g, off + i1 * 3 + 1, none⟩ = some (.int .i64 un) := hu3.cell d1 (fun h => by have := own_ge ho h; (try dsimp only at this) <;> omega)
                        refine hK.out _ _ (by exact V3) (fun hHeld => ?_)
                        clear hK K
                        try simp only [Act.put, List.setIfInBounds_toArray, List.set_cons_zero, List.set_cons_succ]
                        refine wpAnyH_ready (rs := [9]) (by kernel_rfl) (by simp) ?_
                        refine (AllReadyH.cons (o := ?ooqa10_0) ?hoqa10_0 ?hsqa10_0 AllReadyH.nil)
                        case hoqa10_0 => (simp only [List.getElem?_toArray, List.getElem?_cons_succ, List.getElem?_cons_zero]; rfl)
                        case hsqa10_0 =>
                          intro K hK
                          go_simp
                          try go_wp2_with fail
                          refine hK.out _ _ (by exact V3) (fun hHeld => ?_)
                          clear hK K
                          try simp only [Act.put, List.setIfInBounds_toArray, List.set_cons_zero, List.set_cons_succ]
                          refine wpAnyH_ready (rs := [10]) (by kernel_rfl) (by simp) ?_
                          refine (AllReadyH.cons (o := ?ooqa11_0) ?hoqa11_0 ?hsqa11_0 AllReadyH.nil)
                          case hoqa11_0 => (simp only [List.getElem?_toArray, List.getElem?_cons_succ, List.getElem?_cons_zero]; rfl)
                          case hsqa11_0 =>
                            intro K hK
                            obtain ⟨x0, x3⟩ : (∀ i, w3.cell? ⟨gk, i, none⟩ = _) ∧ ∀ i, w3.frozen? ⟨gk, i, none⟩ = false := cells_of hby
                            have x1 := x0 3
                            have x2 := x3 3
                            have V4 : (w3.setCell ⟨gk, 3, none⟩ (.slice va vn vc)).cell? ⟨g, off + i1 * 3 + 1, none⟩ = some (.int .i64 un) := (Upd.setCell (S := fun k => k = gk) w3 rfl _).cell V3 (fun h => by (have : g = gk := h); omega)
                            clear x0 x3
                            go_simp
                            try go_wp2_with fail
                            refine hK.out _ _ (by exact V4) (fun hHeld => ?_)
                            clear hK K
                            try simp only [Act.put, List.setIfInBounds_toArray, List.set_cons_zero, List.set_cons_succ]
                            refine wpAnyH_done (by kernel_rfl) ?_ _
                            clear hHeld x1 x2 V4 V3 V1 hze hb3
                            go_wp2_with fail
                            go_roundw
                            case rel => exact ⟨j + 1, i1 + 1, _, by have := hij.out; omega, by omega, by go_num, set_blk hby _, by rw [ht.out]; exact (Upd.setCell (S := fun k => k = gk) w3 rfl _).owns ho4 (fun k hk e => hn3 (e ▸ hk)), hU3.then_setCell (fun h => absurd h (by show ¬ gk < w1.heap.size; omega)) _⟩
                            case measure => have := hij.out; simp [intOf]; omega
                  case hsqa7_1 =>
                    intro K hK
                    go_simp
                    try go_wp2_with fail
                    refine hK.out _ _ (by exact V1) (fun hHeld => ?_)
                    clear hK K
                    try simp only [Act.put, List.setIfInBounds_toArray, List.set_cons_zero, List.set_cons_succ]
                    have hz2 := (((Upd.refl Non wr).then_alloc (.cells #[.int .i64 un] 3)).then_drew).cell hze fun h => h
                    refine wpAnyH_ready (rs := [1]) (by kernel_rfl) (by simp) ?_
                    refine (AllReadyH.cons (o := ?ooqa12_0) ?hoqa12_0 ?hsqa12_0 AllReadyH.nil)
                    case hoqa12_0 => (simp only [List.getElem?_toArray, List.getElem?_cons_succ, List.getElem?_cons_zero]; rfl)
                    case hsqa12_0 =>
                      intro K hK
                      go_simp
                      try go_wp2_with fail
                      refine hK.out _ _ (by exact V1) (fun hHeld => ?_)
                      clear hK K
                      try simp only [Act.put, List.setIfInBounds_toArray, List.set_cons_zero, List.set_cons_succ]
                      refine wpAnyH_ready (rs := [8]) (by kernel_rfl) (by simp) ?_
                      refine (AllReadyH.cons (o := ?ooqa13_0) ?hoqa13_0 ?hsqa13_0 AllReadyH.nil)
                      case hoqa13_0 => (simp only [List.getElem?_toArray, List.getElem?_cons_succ, List.getElem?_cons_zero]; rfl)
                      case hsqa13_0 =>
                        intro K hK
                        go_must (refine step_app1 rfl _ _ 23 rfl w1.heap.size 3 (.int .i64 0) 1 8 Tryd.underlying23 hi3.out rfl _ _ _ rfl ho [.int .i64 un] wr.heap.size rfl rfl rfl (ics_one [un]) (by unfold maxLen; omega) (by omega) (by omega) ?_)
                        intro v3 w3 ho3 hu3 hf3
                        obtain ⟨vn, va, vc, rfl⟩ : ∃ n a c, v3 = .slice a n c := by obtain ⟨_, a, c, e, _⟩ := has_of_owns ho3; exact ⟨_, a, c, e⟩
                        have hnt := own_not ho hb3 (by decide)
                        have hby := hu3.heap hb3 hnt
                        have ho4 := own_ints ho3 (by omega)
                        have hU3 : Upd Non w1 w3 := hU.trans hu3 fun k hk h => by have := own_ge ho h; omega
                        have hn3 := own_not ho4 hby (by decide)
                        have V3 : w3.cell? ⟨g, off + i1 * 3 + 1, none⟩ = some (.int .i64 un) := hu3.cell d1 (fun h => by have := own_ge ho h; (try dsimp only at this) <;> omega)
                        refine hK.out _ _ (by exact V3) (fun hHeld => ?_)
                        clear hK K
                        try simp only [Act.put, List.setIfInBounds_toArray, List.set_cons_zero, List.set_cons_succ]
                        refine wpAnyH_ready (rs := [9]) (by kernel_rfl) (by simp) ?_
                        refine (AllReadyH.cons (o := ?ooqa14_0) ?hoqa14_0 ?hsqa14_0 AllReadyH.nil)
                        case hoqa14_0 => (simp only [List.getElem?_toArray, List.getElem?_cons_succ, List.getElem?_cons_zero]; rfl)
                        case hsqa14_0 =>
                          intro K hK
                          go_simp
                          try go_wp2_with fail
                          refine hK.out _ _ (by exact V3) (fun hHeld => ?_)
                          clear hK K
                          try simp only [Act.put, List.setIfInBounds_toArray, List.set_cons_zero, List.set_cons_succ]
                          refine wpAnyH_ready (rs := [10]) (by kernel_rfl) (by simp) ?_
                          refine (AllReadyH.cons (o := ?ooqa15_0) ?hoqa15_0 ?hsqa15_0 AllReadyH.nil)
                          case hoqa15_0 => (simp only [List.getElem?_toArray, List.getElem?_cons_succ, List.getElem?_cons_zero]; rfl)
                          case hsqa15_0 =>
                            intro K hK
                            obtain ⟨x0, x3⟩ : (∀ i, w3.cell? ⟨gk, i, none⟩ = _) ∧ ∀ i, w3.frozen? ⟨gk, i, none⟩ = false := cells_of hby
                            have x1 := x0 3
                            have x2 := x3 3
                            have V4 : (w3.setCell ⟨gk, 3, none⟩ (.slice va vn vc)).cell? ⟨g, off + i1 * 3 + 1, none⟩ = some (.int .i64 un) := (Upd.setCell (S := fun k => k = gk) w3 rfl _).cell V3 (fun h => by (have : g = gk := h); omega)
                            clear x0 x3
                            go_simp
                            try go_wp2_with fail
                            refine hK.out _ _ (by exact V4) (fun hHeld => ?_)
                            clear hK K
                            try simp only [Act.put, List.setIfInBounds_toArray, List.set_cons_zero, List.set_cons_succ]
                            refine wpAnyH_done (by kernel_rfl) ?_ _
                            clear hHeld x1 x2 V4 V3 V1 hze hb3
                            go_wp2_with fail
                            go_roundw
                            case rel => exact ⟨j + 1, i1 + 1, _, by have := hij.out; omega, by omega, by go_num, set_blk hby _, by rw [ht.out]; exact (Upd.setCell (S := fun k => k = gk) w3 rfl _).owns ho4 (fun k hk e => hn3 (e ▸ hk)), hU3.then_setCell (fun h => absurd h (by show ¬ gk < w1.heap.size; omega)) _⟩
                            case measure => have := hij.out; simp [intOf]; omega
                · obtain rfl : j = r.length := by omega
                  have hlm : ¬ (i1 : Int) < (m : Int) := by have := hlen.out; omega
                  replace hij := Lib.hid hij
                  rw [List.take_of_length_le (by simp)] at ho
                  have hI : Ints wr nv (r.map (·.n)) := has_of_owns ho
                  obtain ⟨na, nc, rfl⟩ : ∃ a c, nv = .slice a (r.map (·.n)).length c := by obtain ⟨_, a, c, e, _⟩ := hI; exact ⟨a, c, e⟩
                  have hK := q21Key ⟨kd, q.s, [], r.map (·.n)⟩ _ wr hI (fun n hn => by obtain ⟨u, hu, rfl⟩ := List.mem_map.1 hn; exact (hok3.out u hu).1) (by have := hq128.out; show q.s.length ≤ _; omega) (by simp)
                  obtain ⟨⟨t, ke⟩, hkr⟩ : ∃ z, keyR ⟨kd, q.s, [], r.map (·.n)⟩ = z := ⟨_, rfl⟩
                  rw [hkr] at hK hyes hno
                  unfold kyV txtV at hK
                  simp only at hK
                  replace hK := Lib.hid hK
                  replace hkr := Lib.hid hkr
                  generalize hnl : (r.map (·.n)).length = nl at *
                  have z0 := (cells_of hb3).1 0
                  have z1 := (cells_of hb3).1 1
                  have z2 := (cells_of hb3).1 2
                  have hnvb : ∀ k, At (.slice na nl nc) k → ¬ k = w.heap.size := fun k hk e => by have h1 := own_ge ho hk; have h2 := (hX.own1 (fun _ h => h.elim)).2.2.1; omega
                  replace hnvb := Lib.hid hnvb
                  clear ho
                  go_wp2_with fail
                  refine hK.out.mono ?_
                  rintro e5 w5 ⟨rfl, hu5⟩
                  have hX : Upd Non (w.alloc (.cells #[.int .i64 0, .string ⟨#[]⟩, .string ⟨#[]⟩, .slice none 0 0] 25)) w5 := hX.trans (hU.trans hu5 fun _ _ h => h) fun _ _ h => h
                  have hb5 := hu5.heap hb3 fun h => h
                  have hI5 := hI.upd hu5 fun _ _ h => h
                  clear z0 z1 z2 hze hb3 hu5 hI hU hK
                  by_cases hke : ke = 0
                  · subst hke
                    by_cases hts : t = s
                    · subst hts
                      obtain rfl := hyes.out rfl
                      obtain ⟨z0, z1, z2, z3⟩ := cells4 hb5
                      have hb := hX.heap (heap_alloc_new w _) fun h => h
                      have hU := (hX.own1 (fun _ h => h.elim)).2.2.2
                      clear hX hb5
                      go_wp2_with ((with_reducible (show wpList _ _ _ (⟨_, Op.store _ _ _, _, _, _, _⟩ :: _) _ _)); refine storeB_list rfl 25 _ _ rfl w.heap.size #[.int .i64 kd, .string ⟨q.s.toArray⟩, .string ⟨#[]⟩, .slice na nl nc] _ _ rfl rfl hb rfl size_key.out (by simp [Value.oneCell']) ?_)
                      intro w8 hb8 hu8
                      obtain ⟨x0, x1, x2, x3⟩ := cells4 hb8
                      have hU8 := hU.trans hu8 (fun k hk e => by (have : k = w.heap.size := e); omega)
                      have hI8 := hI5.upd hu8 hnvb.out
                      clear hb hb8 hu8 hU z0 z1 z2 z3 hI5
                      go_wp2_with fail
                      refine bodyPost_ret (v := .tuple #[.agg #[.int .i64 kd, .string ⟨q.s.toArray⟩, .string ⟨#[]⟩, .slice na nl nc], .int .i64 0]) (by simp [results, Tryd.results15, go_sem, x0, x1, x2, x3]; try rfl) rfl ⟨_, rfl, hI8, hU8⟩
                    · obtain rfl := hno.out (fun h => hts (by injection h))
                      have hts2 : (t == s) = false := by simpa using hts
                      clear hb5 hI5
                      have hb := hX.heap (heap_alloc_new w _) fun h => h
                      have hU := (hX.own1 (fun _ h => h.elim)).2.2.2
                      clear hX
                      try simp only []
                      go_wp2_with ((with_reducible (show wpList _ _ _ (⟨_, Op.store _ _ _, _, _, _, _⟩ :: _) _ _)); refine storeB_list rfl 25 _ _ rfl w.heap.size #[.int .i64 0, .string ⟨#[]⟩, .string ⟨#[]⟩, .slice none 0 0] _ _ rfl rfl hb rfl size_key.out (by simp [Value.oneCell']) ?_)
                      intro w8 hb8 hu8
                      obtain ⟨x0, x1, x2, x3⟩ := cells4 hb8
                      have hU8 := hU.trans hu8 (fun k hk e => by (have : k = w.heap.size := e); omega)
                      clear hb hb8 hu8 hU
                      go_wp2_with fail
                      refine bodyPost_ret (v := .tuple #[.agg #[.int .i64 0, .string ⟨#[]⟩, .string ⟨#[]⟩, .slice none 0 0], .int .i64 4]) (by simp [results, Tryd.results15, go_sem, x0, x1, x2, x3]; try rfl) rfl ⟨_, rfl, Has.nil _ _, hU8⟩
                  · obtain rfl := hno.out (fun h => hke (by injection h))
                    have hke2 : (ke != 0) = true := by simp [hke]
                    clear hb5 hI5
                    have hb := hX.heap (heap_alloc_new w _) fun h => h
                    have hU := (hX.own1 (fun _ h => h.elim)).2.2.2
                    clear hX
                    try simp only []
                    go_wp2_with ((with_reducible (show wpList _ _ _ (⟨_, Op.store _ _ _, _, _, _, _⟩ :: _) _ _)); refine storeB_list rfl 25 _ _ rfl w.heap.size #[.int .i64 0, .string ⟨#[]⟩, .string ⟨#[]⟩, .slice none 0 0] _ _ rfl rfl hb rfl size_key.out (by simp [Value.oneCell']) ?_)
                    intro w8 hb8 hu8
                    obtain ⟨x0, x1, x2, x3⟩ := cells4 hb8
                    have hU8 := hU.trans hu8 (fun k hk e => by (have : k = w.heap.size := e); omega)
                    clear hb hb8 hu8 hU
                    go_wp2_with fail
                    refine bodyPost_ret (v := .tuple #[.agg #[.int .i64 0, .string ⟨#[]⟩, .string ⟨#[]⟩, .slice none 0 0], .int .i64 4]) (by simp [results, Tryd.results15, go_sem, x0, x1, x2, x3]; try rfl) rfl ⟨_, rfl, Has.nil _ _, hU8⟩
            · replace hB := Lib.hid hB
              go_wp2_with fail
              obtain ⟨hb3, hUn⟩ := And.intro hbS hUS
              clear hbS hUS e0 zc zf y0 y1 y1'
              go_loopw [9] (fun i wr => ∃ (j i1 : Nat) (nv : Value), i1 = 2 + j ∧ j ≤ r.length ∧ i = .int .i64 (i1 : Int) ∧ wr.heap[gk]? = some (.cells #[.int .i64 kd, .string ⟨q.s.toArray⟩, .string ⟨#[]⟩, nv] 25 (0, 0)) ∧ OwnI wr w1.heap.size nv ((r.map (·.n)).take j) ∧ Upd Non w1 wr) (fun i _ => 2 + r.length - (intOf i).toNat)
              case atStart => exact ⟨0, 2, .slice none 0 0, rfl, by omega, rfl, hb3, World.ownsRow_nil _ _ _ _, hUn⟩
              case round =>
                clear hb3 hUn
                obtain ⟨j, i1, nv, hij, hj, rfl, hb3, ho, hU⟩ := hrel
                have hze : wr.cell? ⟨gk, 3, none⟩ = some nv := (cells_of hb3).1 3
                by_cases hlt : j < r.length
                · have d1 : wr.cell? ⟨g, off + i1 * 3 + 1, none⟩ = some (.int .i64 (r[j]'hlt).n) := hU.cell (by have := hcr.out j hlt; rw [hij]; exact this) fun h => h
                  have ht := Lib.hid (take_n r j hlt)
                  generalize hun : (r[j]'hlt).n = un at *
                  have hjm : i1 < m := by have := hlen.out; omega
                  have hlm : (i1 : Int) < (m : Int) := by omega
                  have V1 := (((Upd.refl Non wr).then_alloc (.cells #[.int .i64 un] 3)).then_drew).cell d1 fun h => h
                  have hsz := hU.size
                  have hl := hfew.out
                  have hmm := hlen.out
                  have hcc : ((r.map (·.n)).take j).length = j := by rw [List.length_take, List.length_map]; omega
                  have hcm2 : j < 200 := by omega
                  replace hij := Lib.hid hij
                  replace hmm := Lib.hid hmm
                  go_wp2_with fail
                  refine wp_region_held_drew (S := (fun w' => w'.cell? ⟨g, off + i1 * 3 + 1, none⟩ = some (.int .i64 un))) (by kernel_rfl) (by exact (Upd.drew Non wr).cell d1 fun h => h) (fun hHeld => ?_)
                  (refine wpAnyH_take (i := 0) (oi := ?oi_qb1) (v := ?v_qb1) ?ho_qb1 ?hs_qb1 ?hf_qb1 ?hr_qb1 ?hQ_qb1 ?hy_qb1 ?hS_qb1 ?rest_qb1; (case hr_qb1 => kernel_rfl); (case hf_qb1 => kernel_rfl); (case hs_qb1 => kernel_rfl); (case ho_qb1 => (simp only [List.getElem?_toArray, List.getElem?_cons_succ, List.getElem?_cons_zero]; rfl)); (case hS_qb1 => assumption); (case hQ_qb1 => exact fun _ _ _ h => h); (case hy_qb1 => (refine Or.inl ⟨by rfl, ?_⟩; (intro w hSw; have x0 : _ = some _ := hSw; go_simp) <;> with_reducible rfl)); (try simp only [Act.put, List.setIfInBounds_toArray, List.set_cons_zero, List.set_cons_succ]))
                  (refine wpAnyH_take (i := 2) (oi := ?oi_qb2) (v := ?v_qb2) ?ho_qb2 ?hs_qb2 ?hf_qb2 ?hr_qb2 ?hQ_qb2 ?hy_qb2 ?hS_qb2 ?rest_qb2; (case hr_qb2 => kernel_rfl); (case hf_qb2 => kernel_rfl); (case hs_qb2 => kernel_rfl); (case ho_qb2 => (simp only [List.getElem?_toArray, List.getElem?_cons_succ, List.getElem?_cons_zero]; rfl)); (case hS_qb2 => assumption); (case hQ_qb2 => exact fun _ _ _ h => h); (case hy_qb2 => (refine Or.inl ⟨by rfl, ?_⟩; (intro w hSw; have x0 : _ = some _ := hSw; go_simp) <;> with_reducible rfl)); (try simp only [Act.put, List.setIfInBounds_toArray, List.set_cons_zero, List.set_cons_succ]))
                  (refine wpAnyH_take (i := 3) (oi := ?oi_qb3) (v := ?v_qb3) ?ho_qb3 ?hs_qb3 ?hf_qb3 ?hr_qb3 ?hQ_qb3 ?hy_qb3 ?hS_qb3 ?rest_qb3; (case hr_qb3 => kernel_rfl); (case hf_qb3 => kernel_rfl); (case hs_qb3 => kernel_rfl); (case ho_qb3 => (simp only [List.getElem?_toArray, List.getElem?_cons_succ, List.getElem?_cons_zero]; rfl)); (case hS_qb3 => assumption); (case hQ_qb3 => exact fun _ _ _ h => h); (case hy_qb3 => (refine Or.inl ⟨by rfl, ?_⟩; (intro w hSw; have x0 : _ = some _ := hSw; go_simp) <;> with_reducible rfl)); (try simp only [Act.put, List.setIfInBounds_toArray, List.set_cons_zero, List.set_cons_succ]))
                  (refine wpAnyH_take (i := 4) (oi := ?oi_qb4) (v := ?v_qb4) ?ho_qb4 ?hs_qb4 ?hf_qb4 ?hr_qb4 ?hQ_qb4 ?hy_qb4 ?hS_qb4 ?rest_qb4; (case hr_qb4 => kernel_rfl); (case hf_qb4 => kernel_rfl); (case hs_qb4 => kernel_rfl); (case ho_qb4 => (simp only [List.getElem?_toArray, List.getElem?_cons_succ, List.getElem?_cons_zero]; rfl)); (case hS_qb4 => assumption); (case hQ_qb4 => exact fun _ _ _ h => h); (case hy_qb4 => (refine Or.inl ⟨by rfl, ?_⟩; (intro w hSw; have x0 : _ = some _ := hSw; go_simp) <;> with_reducible rfl)); (try simp only [Act.put, List.setIfInBounds_toArray, List.set_cons_zero, List.set_cons_succ]))
                  (refine wpAnyH_take (i := 5) (oi := ?oi_qb5) (v := ?v_qb5) ?ho_qb5 ?hs_qb5 ?hf_qb5 ?hr_qb5 ?hQ_qb5 ?hy_qb5 ?hS_qb5 ?rest_qb5; (case hr_qb5 => kernel_rfl); (case hf_qb5 => kernel_rfl); (case hs_qb5 => kernel_rfl); (case ho_qb5 => (simp only [List.getElem?_toArray, List.getElem?_cons_succ, List.getElem?_cons_zero]; rfl)); (case hS_qb5 => assumption); (case hQ_qb5 => exact fun _ _ _ h => h); (case hy_qb5 => (refine Or.inl ⟨by rfl, ?_⟩; (intro w hSw; have x0 : _ = some _ := hSw; go_simp) <;> with_reducible rfl)); (try simp only [Act.put, List.setIfInBounds_toArray, List.set_cons_zero, List.set_cons_succ]))
                  (refine wpAnyH_take (i := 6) (oi := ?oi_qb6) (v := ?v_qb6) ?ho_qb6 ?hs_qb6 ?hf_qb6 ?hr_qb6 ?hQ_qb6 ?hy_qb6 ?hS_qb6 ?rest_qb6; (case hr_qb6 => kernel_rfl); (case hf_qb6 => kernel_rfl); (case hs_qb6 => kernel_rfl); (case ho_qb6 => (simp only [List.getElem?_toArray, List.getElem?_cons_succ, List.getElem?_cons_zero]; rfl)); (case hS_qb6 => assumption); (case hQ_qb6 => exact fun _ _ _ h => h); (case hy_qb6 => (refine Or.inl ⟨by rfl, ?_⟩; (intro w hSw; have x0 : _ = some _ := hSw; go_simp) <;> with_reducible rfl)); (try simp only [Act.put, List.setIfInBounds_toArray, List.set_cons_zero, List.set_cons_succ]))
                  refine wpAnyH_ready (rs := [1, 7]) (by kernel_rfl) (by simp) ?_
                  refine (AllReadyH.cons (o := ?ooqb7_0) ?hoqb7_0 ?hsqb7_0 (AllReadyH.cons (o := ?ooqb7_1) ?hoqb7_1 ?hsqb7_1 AllReadyH.nil))
                  case hoqb7_0 => (simp only [List.getElem?_toArray, List.getElem?_cons_succ, List.getElem?_cons_zero]; rfl)
                  case hoqb7_1 => (simp only [List.getElem?_toArray, List.getElem?_cons_succ, List.getElem?_cons_zero]; rfl)
                  case hsqb7_0 =>
                    have hz2 := (Upd.drew Non wr).cell hze fun h => h
                    intro K hK
                    go_simp
                    try go_wp2_with fail
                    refine hK.out _ _ (by exact (Upd.drew Non wr).cell d1 fun h => h) (fun hHeld => ?_)
                    clear hK K
                    try simp only [Act.put, List.setIfInBounds_toArray, List.set_cons_zero, List.set_cons_succ]
                    refine wpAnyH_ready (rs := [7]) (by kernel_rfl) (by simp) ?_
                    refine (AllReadyH.cons (o := ?ooqb8_0) ?hoqb8_0 ?hsqb8_0 AllReadyH.nil)
                    case hoqb8_0 => (simp only [List.getElem?_toArray, List.getElem?_cons_succ, List.getElem?_cons_zero]; rfl)
                    case hsqb8_0 =>
                      intro K hK
                      go_simp
                      try go_wp2_with fail
                      refine hK.out _ _ (by exact V1) (fun hHeld => ?_)
                      clear hK K
                      try simp only [Act.put, List.setIfInBounds_toArray, List.set_cons_zero, List.set_cons_succ]
                      refine wpAnyH_ready (rs := [8]) (by kernel_rfl) (by simp) ?_
                      refine (AllReadyH.cons (o := ?ooqb9_0) ?hoqb9_0 ?hsqb9_0 AllReadyH.nil)
                      case hoqb9_0 => (simp only [List.getElem?_toArray, List.getElem?_cons_succ, List.getElem?_cons_zero]; rfl)
                      case hsqb9_0 =>
                        intro K hK
                        go_must (refine step_app1 rfl _ _ 23 rfl w1.heap.size 3 (.int .i64 0) 1 8 Tryd.underlying23 hi3.out rfl _ _ _ rfl ho [.int .i64 un] wr.heap.size rfl rfl rfl (ics_one [un]) (by unfold maxLen; omega) (by omega) (by omega) ?_)
                        intro v3 w3 ho3 hu3 hf3
                        obtain ⟨vn, va, vc, rfl⟩ : ∃ n a c, v3 = .slice a n c := by obtain ⟨_, a, c, e, _⟩ := has_of_owns ho3; exact ⟨_, a, c, e⟩
                        have hnt := own_not ho hb3 (by decide)
                        have hby := hu3.heap hb3 hnt
                        have ho4 := own_ints ho3 (by omega)
                        have hU3 : Upd Non w1 w3 := hU.trans hu3 fun k hk h => by have := own_ge ho h; omega
                        have hn3 := own_not ho4 hby (by decide)
                        have V3 : w3.cell? ⟨g, off + i1 * 3 + 1, none⟩ = some (.int .i64 un) := hu3.cell d1 (fun h => by have := own_ge ho h; (try dsimp only at this) <;> omega)
                        refine hK.out _ _ (by exact V3) (fun hHeld => ?_)
                        clear hK K
                        try simp only [Act.put, List.setIfInBounds_toArray, List.set_cons_zero, List.set_cons_succ]
                        refine wpAnyH_ready (rs := [9]) (by kernel_rfl) (by simp) ?_
                        refine (AllReadyH.cons (o := ?ooqb10_0) ?hoqb10_0 ?hsqb10_0 AllReadyH.nil)
                        case hoqb10_0 => (simp only [List.getElem?_toArray, List.getElem?_cons_succ, List.getElem?_cons_zero]; rfl)
                        case hsqb10_0 =>
                          intro K hK
                          go_simp
                          try go_wp2_with fail
                          refine hK.out _ _ (by exact V3) (fun hHeld => ?_)
                          clear hK K
                          try simp only [Act.put, List.setIfInBounds_toArray, List.set_cons_zero, List.set_cons_succ]
                          refine wpAnyH_ready (rs := [10]) (by kernel_rfl) (by simp) ?_
                          refine (AllReadyH.cons (o := ?ooqb11_0) ?hoqb11_0 ?hsqb11_0 AllReadyH.nil)
                          case hoqb11_0 => (simp only [List.getElem?_toArray, List.getElem?_cons_succ, List.getElem?_cons_zero]; rfl)
                          case hsqb11_0 =>
                            intro K hK
                            obtain ⟨x0, x3⟩ : (∀ i, w3.cell? ⟨gk, i, none⟩ = _) ∧ ∀ i, w3.frozen? ⟨gk, i, none⟩ = false := cells_of hby
                            have x1 := x0 3
                            have x2 := x3 3
                            have V4 : (w3.setCell ⟨gk, 3, none⟩ (.slice va vn vc)).cell? ⟨g, off + i1 * 3 + 1, none⟩ = some (.int .i64 un) := (Upd.setCell (S := fun k => k = gk) w3 rfl _).cell V3 (fun h => by (have : g = gk := h); omega)
                            clear x0 x3
                            go_simp
                            try go_wp2_with fail
                            refine hK.out _ _ (by exact V4) (fun hHeld => ?_)
                            clear hK K
                            try simp only [Act.put, List.setIfInBounds_toArray, List.set_cons_zero, List.set_cons_succ]
                            refine wpAnyH_done (by kernel_rfl) ?_ _
                            clear hHeld x1 x2 V4 V3 V1 hze hb3
                            go_wp2_with fail
                            go_roundw
                            case rel => exact ⟨j + 1, i1 + 1, _, by have := hij.out; omega, by omega, by go_num, set_blk hby _, by rw [ht.out]; exact (Upd.setCell (S := fun k => k = gk) w3 rfl _).owns ho4 (fun k hk e => hn3 (e ▸ hk)), hU3.then_setCell (fun h => absurd h (by show ¬ gk < w1.heap.size; omega)) _⟩
                            case measure => have := hij.out; simp [intOf]; omega
                  case hsqb7_1 =>
                    intro K hK
                    go_simp
                    try go_wp2_with fail
                    refine hK.out _ _ (by exact V1) (fun hHeld => ?_)
                    clear hK K
                    try simp only [Act.put, List.setIfInBounds_toArray, List.set_cons_zero, List.set_cons_succ]
                    have hz2 := (((Upd.refl Non wr).then_alloc (.cells #[.int .i64 un] 3)).then_drew).cell hze fun h => h
                    refine wpAnyH_ready (rs := [1]) (by kernel_rfl) (by simp) ?_
                    refine (AllReadyH.cons (o := ?ooqb12_0) ?hoqb12_0 ?hsqb12_0 AllReadyH.nil)
                    case hoqb12_0 => (simp only [List.getElem?_toArray, List.getElem?_cons_succ, List.getElem?_cons_zero]; rfl)
                    case hsqb12_0 =>
                      intro K hK
                      go_simp
                      try go_wp2_with fail
                      refine hK.out _ _ (by exact V1) (fun hHeld => ?_)
                      clear hK K
                      try simp only [Act.put, List.setIfInBounds_toArray, List.set_cons_zero, List.set_cons_succ]
                      refine wpAnyH_ready (rs := [8]) (by kernel_rfl) (by simp) ?_
                      refine (AllReadyH.cons (o := ?ooqb13_0) ?hoqb13_0 ?hsqb13_0 AllReadyH.nil)
                      case hoqb13_0 => (simp only [List.getElem?_toArray, List.getElem?_cons_succ, List.getElem?_cons_zero]; rfl)
                      case hsqb13_0 =>
                        intro K hK
                        go_must (refine step_app1 rfl _ _ 23 rfl w1.heap.size 3 (.int .i64 0) 1 8 Tryd.underlying23 hi3.out rfl _ _ _ rfl ho [.int .i64 un] wr.heap.size rfl rfl rfl (ics_one [un]) (by unfold maxLen; omega) (by omega) (by omega) ?_)
                        intro v3 w3 ho3 hu3 hf3
                        obtain ⟨vn, va, vc, rfl⟩ : ∃ n a c, v3 = .slice a n c := by obtain ⟨_, a, c, e, _⟩ := has_of_owns ho3; exact ⟨_, a, c, e⟩
                        have hnt := own_not ho hb3 (by decide)
                        have hby := hu3.heap hb3 hnt
                        have ho4 := own_ints ho3 (by omega)
                        have hU3 : Upd Non w1 w3 := hU.trans hu3 fun k hk h => by have := own_ge ho h; omega
                        have hn3 := own_not ho4 hby (by decide)
                        have V3 : w3.cell? ⟨g, off + i1 * 3 + 1, none⟩ = some (.int .i64 un) := hu3.cell d1 (fun h => by have := own_ge ho h; (try dsimp only at this) <;> omega)
                        refine hK.out _ _ (by exact V3) (fun hHeld => ?_)
                        clear hK K
                        try simp only [Act.put, List.setIfInBounds_toArray, List.set_cons_zero, List.set_cons_succ]
                        refine wpAnyH_ready (rs := [9]) (by kernel_rfl) (by simp) ?_
                        refine (AllReadyH.cons (o := ?ooqb14_0) ?hoqb14_0 ?hsqb14_0 AllReadyH.nil)
                        case hoqb14_0 => (simp only [List.getElem?_toArray, List.getElem?_cons_succ, List.getElem?_cons_zero]; rfl)
                        case hsqb14_0 =>
                          intro K hK
                          go_simp
                          try go_wp2_with fail
                          refine hK.out _ _ (by exact V3) (fun hHeld => ?_)
                          clear hK K
                          try simp only [Act.put, List.setIfInBounds_toArray, List.set_cons_zero, List.set_cons_succ]
                          refine wpAnyH_ready (rs := [10]) (by kernel_rfl) (by simp) ?_
                          refine (AllReadyH.cons (o := ?ooqb15_0) ?hoqb15_0 ?hsqb15_0 AllReadyH.nil)
                          case hoqb15_0 => (simp only [List.getElem?_toArray, List.getElem?_cons_succ, List.getElem?_cons_zero]; rfl)
                          case hsqb15_0 =>
                            intro K hK
                            obtain ⟨x0, x3⟩ : (∀ i, w3.cell? ⟨gk, i, none⟩ = _) ∧ ∀ i, w3.frozen? ⟨gk, i, none⟩ = false := cells_of hby
                            have x1 := x0 3
                            have x2 := x3 3
                            have V4 : (w3.setCell ⟨gk, 3, none⟩ (.slice va vn vc)).cell? ⟨g, off + i1 * 3 + 1, none⟩ = some (.int .i64 un) := (Upd.setCell (S := fun k => k = gk) w3 rfl _).cell V3 (fun h => by (have : g = gk := h); omega)
                            clear x0 x3
                            go_simp
                            try go_wp2_with fail
                            refine hK.out _ _ (by exact V4) (fun hHeld => ?_)
                            clear hK K
                            try simp only [Act.put, List.setIfInBounds_toArray, List.set_cons_zero, List.set_cons_succ]
                            refine wpAnyH_done (by kernel_rfl) ?_ _
                            clear hHeld x1 x2 V4 V3 V1 hze hb3
                            go_wp2_with fail
                            go_roundw
                            case rel => exact ⟨j + 1, i1 + 1, _, by have := hij.out; omega, by omega, by go_num, set_blk hby _, by rw [ht.out]; exact (Upd.setCell (S := fun k => k = gk) w3 rfl _).owns ho4 (fun k hk e => hn3 (e ▸ hk)), hU3.then_setCell (fun h => absurd h (by show ¬ gk < w1.heap.size; omega)) _⟩
                            case measure => have := hij.out; simp [intOf]; omega
                · obtain rfl : j = r.length := by omega
                  have hlm : ¬ (i1 : Int) < (m : Int) := by have := hlen.out; omega
                  replace hij := Lib.hid hij
                  rw [List.take_of_length_le (by simp)] at ho
                  have hI : Ints wr nv (r.map (·.n)) := has_of_owns ho
                  obtain ⟨na, nc, rfl⟩ : ∃ a c, nv = .slice a (r.map (·.n)).length c := by obtain ⟨_, a, c, e, _⟩ := hI; exact ⟨a, c, e⟩
                  have hK := q21Key ⟨kd, q.s, [], r.map (·.n)⟩ _ wr hI (fun n hn => by obtain ⟨u, hu, rfl⟩ := List.mem_map.1 hn; exact (hok3.out u hu).1) (by have := hq128.out; show q.s.length ≤ _; omega) (by simp)
                  obtain ⟨⟨t, ke⟩, hkr⟩ : ∃ z, keyR ⟨kd, q.s, [], r.map (·.n)⟩ = z := ⟨_, rfl⟩
                  rw [hkr] at hK hyes hno
                  unfold kyV txtV at hK
                  simp only at hK
                  replace hK := Lib.hid hK
                  replace hkr := Lib.hid hkr
                  generalize hnl : (r.map (·.n)).length = nl at *
                  have z0 := (cells_of hb3).1 0
                  have z1 := (cells_of hb3).1 1
                  have z2 := (cells_of hb3).1 2
                  have hnvb : ∀ k, At (.slice na nl nc) k → ¬ k = w.heap.size := fun k hk e => by have h1 := own_ge ho hk; have h2 := (hX.own1 (fun _ h => h.elim)).2.2.1; omega
                  replace hnvb := Lib.hid hnvb
                  clear ho
                  go_wp2_with fail
                  refine hK.out.mono ?_
                  rintro e5 w5 ⟨rfl, hu5⟩
                  have hX : Upd Non (w.alloc (.cells #[.int .i64 0, .string ⟨#[]⟩, .string ⟨#[]⟩, .slice none 0 0] 25)) w5 := hX.trans (hU.trans hu5 fun _ _ h => h) fun _ _ h => h
                  have hb5 := hu5.heap hb3 fun h => h
                  have hI5 := hI.upd hu5 fun _ _ h => h
                  clear z0 z1 z2 hze hb3 hu5 hI hU hK
                  by_cases hke : ke = 0
                  · subst hke
                    by_cases hts : t = s
                    · subst hts
                      obtain rfl := hyes.out rfl
                      obtain ⟨z0, z1, z2, z3⟩ := cells4 hb5
                      have hb := hX.heap (heap_alloc_new w _) fun h => h
                      have hU := (hX.own1 (fun _ h => h.elim)).2.2.2
                      clear hX hb5
                      go_wp2_with ((with_reducible (show wpList _ _ _ (⟨_, Op.store _ _ _, _, _, _, _⟩ :: _) _ _)); refine storeB_list rfl 25 _ _ rfl w.heap.size #[.int .i64 kd, .string ⟨q.s.toArray⟩, .string ⟨#[]⟩, .slice na nl nc] _ _ rfl rfl hb rfl size_key.out (by simp [Value.oneCell']) ?_)
                      intro w8 hb8 hu8
                      obtain ⟨x0, x1, x2, x3⟩ := cells4 hb8
                      have hU8 := hU.trans hu8 (fun k hk e => by (have : k = w.heap.size := e); omega)
                      have hI8 := hI5.upd hu8 hnvb.out
                      clear hb hb8 hu8 hU z0 z1 z2 z3 hI5
                      go_wp2_with fail
                      refine bodyPost_ret (v := .tuple #[.agg #[.int .i64 kd, .string ⟨q.s.toArray⟩, .string ⟨#[]⟩, .slice na nl nc], .int .i64 0]) (by simp [results, Tryd.results15, go_sem, x0, x1, x2, x3]; try rfl) rfl ⟨_, rfl, hI8, hU8⟩
                    · obtain rfl := hno.out (fun h => hts (by injection h))
                      have hts2 : (t == s) = false := by simpa using hts
                      clear hb5 hI5
                      have hb := hX.heap (heap_alloc_new w _) fun h => h
                      have hU := (hX.own1 (fun _ h => h.elim)).2.2.2
                      clear hX
                      try simp only []
                      go_wp2_with ((with_reducible (show wpList _ _ _ (⟨_, Op.store _ _ _, _, _, _, _⟩ :: _) _ _)); refine storeB_list rfl 25 _ _ rfl w.heap.size #[.int .i64 0, .string ⟨#[]⟩, .string ⟨#[]⟩, .slice none 0 0] _ _ rfl rfl hb rfl size_key.out (by simp [Value.oneCell']) ?_)
                      intro w8 hb8 hu8
                      obtain ⟨x0, x1, x2, x3⟩ := cells4 hb8
                      have hU8 := hU.trans hu8 (fun k hk e => by (have : k = w.heap.size := e); omega)
                      clear hb hb8 hu8 hU
                      go_wp2_with fail
                      refine bodyPost_ret (v := .tuple #[.agg #[.int .i64 0, .string ⟨#[]⟩, .string ⟨#[]⟩, .slice none 0 0], .int .i64 4]) (by simp [results, Tryd.results15, go_sem, x0, x1, x2, x3]; try rfl) rfl ⟨_, rfl, Has.nil _ _, hU8⟩
                  · obtain rfl := hno.out (fun h => hke (by injection h))
                    have hke2 : (ke != 0) = true := by simp [hke]
                    clear hb5 hI5
                    have hb := hX.heap (heap_alloc_new w _) fun h => h
                    have hU := (hX.own1 (fun _ h => h.elim)).2.2.2
                    clear hX
                    try simp only []
                    go_wp2_with ((with_reducible (show wpList _ _ _ (⟨_, Op.store _ _ _, _, _, _, _⟩ :: _) _ _)); refine storeB_list rfl 25 _ _ rfl w.heap.size #[.int .i64 0, .string ⟨#[]⟩, .string ⟨#[]⟩, .slice none 0 0] _ _ rfl rfl hb rfl size_key.out (by simp [Value.oneCell']) ?_)
                    intro w8 hb8 hu8
                    obtain ⟨x0, x1, x2, x3⟩ := cells4 hb8
                    have hU8 := hU.trans hu8 (fun k hk e => by (have : k = w.heap.size := e); omega)
                    clear hb hb8 hu8 hU
                    go_wp2_with fail
                    refine bodyPost_ret (v := .tuple #[.agg #[.int .i64 0, .string ⟨#[]⟩, .string ⟨#[]⟩, .slice none 0 0], .int .i64 4]) (by simp [results, Tryd.results15, go_sem, x0, x1, x2, x3]; try rfl) rfl ⟨_, rfl, Has.nil _ _, hU8⟩
  · have hpr := hno (fun h => he h.1)
    rw [hpr]
    have he2 : (e != 0) = true := by simp [he]
    clear hd hpr hno hyesQ hnoQ
    unfold txtV
    go_enter Tryd.func15, Tryd.ntmps15
    go_wp2_with fail
    refine (hdec.out _).mono ?_
    rintro e1 w1 ⟨v, rfl, hP, hX, hown⟩
    obtain ⟨a, cc, rfl, hlc, hcm, hcell⟩ := parts_at hP
    replace hcell := Lib.hid hcell
    unfold maxLen at hcm
    have hb := hX.heap (heap_alloc_new w _) fun h => h
    have hU := (hX.own1 (fun _ h => h.elim)).2.2.2
    clear hX
    try simp only []
    go_wp2_with ((with_reducible (show wpList _ _ _ (⟨_, Op.store _ _ _, _, _, _, _⟩ :: _) _ _)); refine storeB_list rfl 25 _ _ rfl w.heap.size #[.int .i64 0, .string ⟨#[]⟩, .string ⟨#[]⟩, .slice none 0 0] _ _ rfl rfl hb rfl size_key.out (by simp [Value.oneCell']) ?_)
    intro w8 hb8 hu8
    obtain ⟨x0, x1, x2, x3⟩ := cells4 hb8
    have hU8 := hU.trans hu8 (fun k hk e => by (have : k = w.heap.size := e); omega)
    clear hb hb8 hu8 hU
    go_wp2_with fail
    refine bodyPost_ret (v := .tuple #[.agg #[.int .i64 0, .string ⟨#[]⟩, .string ⟨#[]⟩, .slice none 0 0], .int .i64 4]) (by simp [results, Tryd.results15, go_sem, x0, x1, x2, x3]; try rfl) rfl ⟨_, rfl, Has.nil _ _, hU8⟩
end Go.Proofs.YtaflpabpkpfifaaDoor
