/- step: Crash. -/
import Derived.Test.YtgkiglodhhlnmaaBmG
import Derived.Test.YtgkiglodhhlnmaaLibB
import Derived.Lib.SliceRun
namespace Go.Proofs.Ytgkiglodhhlnmaa
open Go.RowKit Go.Amb Go.Shelf
set_option linter.unusedVariables false
set_option linter.unusedSimpArgs false
set_option maxRecDepth 100000
set_option maxHeartbeats 4000000 in
theorem stepCrash {B : Nat → Prop} {w0 w : World} {D : Nat} {F : Nat → Prop} {d r : Dk} {kv pv : Value} (h : Bth B w0 w D F d r kv pv) (hs : Same d r) (hP : d.P.length ≤ 1000000) (i : Int) (s : List UInt8) (va : Option Addr) (q vc : Nat) (keep : List Int) (hI : Ints w (.slice va q vc) keep) (hq : keep.length ≤ 300) :
    Calls Try.prog 20 #[.pointer (some ⟨D, 0, none⟩), rfv r kv pv, .agg #[.int .i64 2, .int .i64 i, .string ⟨s.toArray⟩, .slice va q vc]] w (Stp B w0 w F d) := by
  have hok := h.lv.at_.ok
  have e1 : r.P.length = d.P.length := by rw [hs.p]
  have e2 : r.K.length = d.K.length := by rw [hs.k, List.length_map]
  have e3 := hok.n1
  have e4 := hok.n2
  have e5 : -1 ≤ r.f := by rw [← hs.f]; exact hok.f1
  have e6 : r.f < 9223372036854775808 := by rw [← hs.f]; exact hok.f2
  have hPl : Hid (d.P.length ≤ d.P.length + 1) := Lib.hid (Nat.le_succ _)
  have hB := Lib.hid h
  have hS := And.intro (hs.crash hok keep) trivial
  have cR : Hid (∀ (w' : World) (B' : Nat → Prop), Bth B' w0 w' D F d r kv pv → Ints w' (.slice va q vc) keep → Calls Try.prog 34 #[rfv r kv pv, .slice va q vc] w' (fun en w9 => ∃ m ka kn kc, en = .returned (.agg #[.int .i64 m, .slice ka kn kc, .slice none 0 0, .int .i64 (-1), .bool false]) ∧
      rfv (r.crashR keep) (.slice ka kn kc) (.slice none 0 0) = .agg #[.int .i64 m, .slice ka kn kc, .slice none 0 0, .int .i64 (-1), .bool false] ∧ Bth B' w0 w9 D F d (r.crashR keep) (.slice ka kn kc) (.slice none 0 0) ∧ Upd Non w' w9)) :=
    Lib.hid (fun w' B' hB' hI' => (refCrash r kv pv _ keep w' hB'.rat hI' (fun p hp => by rw [e2]; exact (hok.p p (by rw [hs.p]; exact hp)).2) (by omega) (by omega) (by omega)).mono fun en w9 ⟨kv', he, hR, hu, hn⟩ => by
      obtain ⟨_, ka, kc, rfl, -⟩ := id hR.k
      exact ⟨_, _, _, _, he, rfl, hB'.ref hR hu (fun k hk => .inr (hn k hk)) (fun k hk => by simp [At, Value.ownBlock] at hk), hu⟩)
  have cD : Hid (∀ (w' : World) (B' : Nat → Prop) (r' : Dk) (kv' pv' : Value), Bth B' w0 w' D F d r' kv' pv' → ∀ v : Value, Ints w' v keep → (0 < keep.length → ∀ k, At v k → ¬ F k) → Calls Try.prog 9 #[.pointer (some ⟨D, 0, none⟩), v] w' (fun en w9 => en = .returned (.int .i64 0) ∧ ∃ F', Bth B' w0 w9 D F' (d.crash keep) r' kv' pv' ∧ Upd F w' w9)) :=
    Lib.hid (fun w' B' r' kv' pv' hB v hv1 hv2 => (lvCrash hB.lv hP v keep hv1 hv2).mono fun en w9 hc => hB.call hc)
  have hS : Hid (Same (d.crash keep) (r.crashR keep) ∧ ((d.crash keep)).P.length ≤ d.P.length + 1 ∧ ((d.crash keep)).K.length = d.K.length) := Lib.hid ⟨hS.1, by rw [crash_P]; omega, by rw [crash_K]⟩
  have hi8 : Hid ((Try.prog.info? 3).map (fun i => (i.zero, i.size, i.bytes)) = some (some (.int .i64 0), 1, 8)) := Lib.hid (by kernel_rfl)
  have hqk : Hid (q = keep.length) := Lib.hid (by obtain ⟨-, a', c', hv, -⟩ := hI; injection hv)
  have hq3 : q ≤ 300 := by have := hqk.out; omega
  replace hI : Hid (∀ w', Upd Non w w' → Ints w' (.slice va q vc) keep) := Lib.hid (fun w' hu => hI.non hu)
  clear hq
  have hs5 := Lib.hid size_disk5
  have hlt : Hid (∀ k, F k → k < w.heap.size) := Lib.hid h.lv.at_.lt
  obtain ⟨m, ka, kn, kc, pa, pn, pc, f, dd, hlit⟩ := rfv_lit h.rat
  try rw [hlit] at cR
  rw [hlit]
  clear hlit e1 e2 e3 e4 e5 e6 hok hs hP h hPl
  go_enter Try.func20, Try.ntmps20
  go_wp2_with fail
  obtain ⟨w5, hw5⟩ : ∃ w5 : World, w5 = (((w.alloc (.cells #[.int .i64 m, .slice ka kn kc, .slice pa pn pc, .int .i64 f, .bool dd] 48)).alloc (.cells #[.int .i64 2, .int .i64 i, .string ⟨s.toArray⟩, .slice va q vc] 34)).alloc (.cells #[.int .i64 0, .slice none 0 0, .slice none 0 0, .int .i64 0, .bool false] 48)) := ⟨_, rfl⟩
  rw [← hw5]
  have hu5 : Upd Non (((w.alloc (.cells #[.int .i64 m, .slice ka kn kc, .slice pa pn pc, .int .i64 f, .bool dd] 48)).alloc (.cells #[.int .i64 2, .int .i64 i, .string ⟨s.toArray⟩, .slice va q vc] 34)).alloc (.cells #[.int .i64 0, .slice none 0 0, .slice none 0 0, .int .i64 0, .bool false] 48)) w5 := by rw [hw5]; exact Upd.refl _ _
  obtain ⟨hx0, hx1, hx2, hz⟩ := upd_three hu5 (fun _ h => h.elim)
  have hN5 : Upd Non w w5 := (((Upd.alloc Non w _).then_alloc _).then_alloc _).trans hu5 fun _ _ h => h
  have hb2 : Hid (B (w.heap.size + 1 + 1) ∨ (w.heap.size ≤ w.heap.size + 1 + 1 ∧ w.heap.size + 1 + 1 < w5.heap.size)) := Lib.hid (.inr ⟨by omega, by omega⟩)
  have hB5 := Lib.hid (hB.out.grow hN5)
  clear hu5 hw5 hB
  refine wp_region_held_drew (S := fun w' => w'.heap[w.heap.size]? = some (.cells #[.int .i64 m, .slice ka kn kc, .slice pa pn pc, .int .i64 f, .bool dd] 48 (0, 0)) ∧ w'.heap[w.heap.size + 1]? = some (.cells #[.int .i64 2, .int .i64 i, .string ⟨s.toArray⟩, .slice va q vc] 34 (0, 0))) (by kernel_rfl) (by exact ⟨hx0, hx1⟩) (fun hHeld => ?_)
  (refine wpAnyH_take (i := 0) (oi := ?oi_21) (v := ?v_21) ?ho_21 ?hs_21 ?hf_21 ?hr_21 ?hQ_21 ?hy_21 ?hS_21 ?rest_21; (case hr_21 => kernel_rfl); (case hf_21 => kernel_rfl); (case hs_21 => kernel_rfl); (case ho_21 => (simp only [List.getElem?_toArray, List.getElem?_cons_succ, List.getElem?_cons_zero]; rfl)); (case hS_21 => assumption); (case hQ_21 => exact fun _ _ _ h => h); (case hy_21 => (refine Or.inl ⟨by rfl, ?_⟩; (intro w hSw; obtain ⟨s0, s1⟩ := hSw; obtain ⟨e0, g0⟩ := cells_of s0; obtain ⟨e1, g1⟩ := cells_of s1; go_simp) <;> with_reducible rfl)); (try simp only [Act.put, List.setIfInBounds_toArray, List.set_cons_zero, List.set_cons_succ]))
  (refine wpAnyH_take (i := 1) (oi := ?oi_22) (v := ?v_22) ?ho_22 ?hs_22 ?hf_22 ?hr_22 ?hQ_22 ?hy_22 ?hS_22 ?rest_22; (case hr_22 => kernel_rfl); (case hf_22 => kernel_rfl); (case hs_22 => kernel_rfl); (case ho_22 => (simp only [List.getElem?_toArray, List.getElem?_cons_succ, List.getElem?_cons_zero]; rfl)); (case hS_22 => assumption); (case hQ_22 => exact fun _ _ _ h => h); (case hy_22 => (refine Or.inl ⟨by rfl, ?_⟩; (intro w hSw; obtain ⟨s0, s1⟩ := hSw; obtain ⟨e0, g0⟩ := cells_of s0; obtain ⟨e1, g1⟩ := cells_of s1; go_simp) <;> with_reducible rfl)); (try simp only [Act.put, List.setIfInBounds_toArray, List.set_cons_zero, List.set_cons_succ]))
  (refine wpAnyH_take (i := 2) (oi := ?oi_23) (v := ?v_23) ?ho_23 ?hs_23 ?hf_23 ?hr_23 ?hQ_23 ?hy_23 ?hS_23 ?rest_23; (case hr_23 => kernel_rfl); (case hf_23 => kernel_rfl); (case hs_23 => kernel_rfl); (case ho_23 => (simp only [List.getElem?_toArray, List.getElem?_cons_succ, List.getElem?_cons_zero]; rfl)); (case hS_23 => assumption); (case hQ_23 => exact fun _ _ _ h => h); (case hy_23 => (refine Or.inl ⟨by rfl, ?_⟩; (intro w hSw; obtain ⟨s0, s1⟩ := hSw; obtain ⟨e0, g0⟩ := cells_of s0; obtain ⟨e1, g1⟩ := cells_of s1; go_simp) <;> with_reducible rfl)); (try simp only [Act.put, List.setIfInBounds_toArray, List.set_cons_zero, List.set_cons_succ]))
  (refine wpAnyH_take (i := 3) (oi := ?oi_24) (v := ?v_24) ?ho_24 ?hs_24 ?hf_24 ?hr_24 ?hQ_24 ?hy_24 ?hS_24 ?rest_24; (case hr_24 => kernel_rfl); (case hf_24 => kernel_rfl); (case hs_24 => kernel_rfl); (case ho_24 => (simp only [List.getElem?_toArray, List.getElem?_cons_succ, List.getElem?_cons_zero]; rfl)); (case hS_24 => assumption); (case hQ_24 => exact fun _ _ _ h => h); (case hy_24 => (refine Or.inl ⟨by rfl, ?_⟩; (intro w hSw; obtain ⟨s0, s1⟩ := hSw; obtain ⟨e0, g0⟩ := cells_of s0; obtain ⟨e1, g1⟩ := cells_of s1; go_simp) <;> with_reducible rfl)); (try simp only [Act.put, List.setIfInBounds_toArray, List.set_cons_zero, List.set_cons_succ]))
  (refine wpAnyH_take (i := 5) (oi := ?oi_25) (v := ?v_25) ?ho_25 ?hs_25 ?hf_25 ?hr_25 ?hQ_25 ?hy_25 ?hS_25 ?rest_25; (case hr_25 => kernel_rfl); (case hf_25 => kernel_rfl); (case hs_25 => kernel_rfl); (case ho_25 => (simp only [List.getElem?_toArray, List.getElem?_cons_succ, List.getElem?_cons_zero]; rfl)); (case hS_25 => assumption); (case hQ_25 => exact fun _ _ _ h => h); (case hy_25 => (refine Or.inl ⟨by rfl, ?_⟩; (intro w hSw; obtain ⟨s0, s1⟩ := hSw; obtain ⟨e0, g0⟩ := cells_of s0; obtain ⟨e1, g1⟩ := cells_of s1; go_simp) <;> with_reducible rfl)); (try simp only [Act.put, List.setIfInBounds_toArray, List.set_cons_zero, List.set_cons_succ]))
  (refine wpAnyH_take (i := 7) (oi := ?oi_26) (v := ?v_26) ?ho_26 ?hs_26 ?hf_26 ?hr_26 ?hQ_26 ?hy_26 ?hS_26 ?rest_26; (case hr_26 => kernel_rfl); (case hf_26 => kernel_rfl); (case hs_26 => kernel_rfl); (case ho_26 => (simp only [List.getElem?_toArray, List.getElem?_cons_succ, List.getElem?_cons_zero]; rfl)); (case hS_26 => assumption); (case hQ_26 => exact fun _ _ _ h => h); (case hy_26 => (refine Or.inl ⟨by rfl, ?_⟩; (intro w hSw; obtain ⟨s0, s1⟩ := hSw; obtain ⟨e0, g0⟩ := cells_of s0; obtain ⟨e1, g1⟩ := cells_of s1; go_simp) <;> with_reducible rfl)); (try simp only [Act.put, List.setIfInBounds_toArray, List.set_cons_zero, List.set_cons_succ]))
  (refine wpAnyH_take (i := 8) (oi := ?oi_27) (v := ?v_27) ?ho_27 ?hs_27 ?hf_27 ?hr_27 ?hQ_27 ?hy_27 ?hS_27 ?rest_27; (case hr_27 => kernel_rfl); (case hf_27 => kernel_rfl); (case hs_27 => kernel_rfl); (case ho_27 => (simp only [List.getElem?_toArray, List.getElem?_cons_succ, List.getElem?_cons_zero]; rfl)); (case hS_27 => assumption); (case hQ_27 => exact fun _ _ _ h => h); (case hy_27 => (refine Or.inl ⟨by rfl, ?_⟩; (intro w hSw; obtain ⟨s0, s1⟩ := hSw; obtain ⟨e0, g0⟩ := cells_of s0; obtain ⟨e1, g1⟩ := cells_of s1; go_simp) <;> with_reducible rfl)); (try simp only [Act.put, List.setIfInBounds_toArray, List.set_cons_zero, List.set_cons_succ]))
  refine wpAnyH_ready (rs := [4, 6]) (by kernel_rfl) (by simp) ?_
  refine (AllReadyH.cons (o := ?oo28_0) ?ho28_0 ?hs28_0 (AllReadyH.cons (o := ?oo28_1) ?ho28_1 ?hs28_1 AllReadyH.nil))
  case ho28_0 => (simp only [List.getElem?_toArray, List.getElem?_cons_succ, List.getElem?_cons_zero]; rfl)
  case ho28_1 => (simp only [List.getElem?_toArray, List.getElem?_cons_succ, List.getElem?_cons_zero]; rfl)
  case hs28_0 =>
    intro K hK
    go_simp
    go_at_call 34
    refine (cR.out w5.drew _ (hB5.out.non (Upd.drew Non w5)) (hI.out _ (hN5.then_drew))).mono ?_
    rintro en w6 ⟨m9, ka9, kn9, kc9, rfl, hrf, hB6, hu6⟩
    have y0 := hu6.heap (show w5.drew.heap[w.heap.size]? = _ from hx0) (fun h => h)
    have y1 := hu6.heap (show w5.drew.heap[w.heap.size + 1]? = _ from hx1) (fun h => h)
    have y2 := hu6.heap (show w5.drew.heap[w.heap.size + 1 + 1]? = _ from hx2) (fun h => h)
    have hN6 : Upd Non w w6 := (hN5.then_drew).trans hu6 fun _ _ h => h
    have hz6 : w5.heap.size ≤ w6.heap.size := hu6.size
    replace hrf := Lib.hid hrf
    replace hB6 := Lib.hid hB6
    try go_wp2_with fail
    refine hK.out _ _ (by exact ⟨y0, y1⟩) (fun hHeld => ?_)
    clear hK K hx0 hx1 hx2 hu6 cR
    try simp only [Act.put, List.setIfInBounds_toArray, List.set_cons_zero, List.set_cons_succ]
    refine wpAnyH_ready (rs := [6]) (by kernel_rfl) (by simp) ?_
    refine (AllReadyH.cons (o := ?oo29_0) ?ho29_0 ?hs29_0 AllReadyH.nil)
    case ho29_0 => (simp only [List.getElem?_toArray, List.getElem?_cons_succ, List.getElem?_cons_zero]; rfl)
    case hs29_0 =>
      have hA6 := Upd.alloc Non w6 (.cells #[] 3)
      have hv0 := hA6.heap y0 fun h => h
      have hv1 := hA6.heap y1 fun h => h
      have hv2 := hA6.heap y2 fun h => h
      have hNv := hN6.trans hA6 fun _ _ h => h
      have hBv := Lib.hid (hB6.out.grow hA6)
      have hov := Lib.hid (World.ownsRow_lit (e := 3) (base := w.heap.size) (size := 1) w6 #[] 0 hN6.size (Nat.zero_le _) rfl)
      have hbN : Hid ((B w6.heap.size ∨ (w.heap.size ≤ w6.heap.size ∧ w6.heap.size < w5.heap.size)) ∨ (w6.heap.size ≤ w6.heap.size ∧ w6.heap.size < (w6.alloc (.cells #[] 3)).heap.size)) := Lib.hid (.inr ⟨Nat.le_refl _, by simp⟩)
      have hb2x : Hid ((B (w.heap.size + 1 + 1) ∨ (w.heap.size ≤ w.heap.size + 1 + 1 ∧ w.heap.size + 1 + 1 < w5.heap.size)) ∨ (w6.heap.size ≤ w.heap.size + 1 + 1 ∧ w.heap.size + 1 + 1 < (w6.alloc (.cells #[] 3)).heap.size)) := Lib.hid (.inl hb2.out)
      have hBB : Hid (∀ k, B k → (B k ∨ (w.heap.size ≤ k ∧ k < w5.heap.size)) ∨ (w6.heap.size ≤ k ∧ k < (w6.alloc (.cells #[] 3)).heap.size)) := Lib.hid (fun k hk => .inl (.inl hk))
      clear hA6 hB6 hN6 hb2
      intro K hK
      go_simp
      try go_wp2_with fail
      refine hK.out _ _ (by exact ⟨hv0, hv1⟩) (fun hHeld => ?_)
      clear hK K
      try simp only [Act.put, List.setIfInBounds_toArray, List.set_cons_zero, List.set_cons_succ]
      clear y0 y1 y2
      refine wpAnyH_ready (rs := [9]) (by kernel_rfl) (by simp) ?_
      refine (AllReadyH.cons (o := ?oo2x1_0) ?ho2x1_0 ?hs2x1_0 AllReadyH.nil)
      case ho2x1_0 => (simp only [List.getElem?_toArray, List.getElem?_cons_succ, List.getElem?_cons_zero]; rfl)
      case hs2x1_0 =>
        intro K hK
        refine step_app rfl _ _ 23 23 rfl w.heap.size 3 (.int .i64 0) 1 8 Try.underlying23 hi8.out rfl _ 0 [] rfl hov.out (.slice va q vc) q (keep.map (.int .i64)) rfl (Src.ofHas Try.underlying23 (by have := hI.out _ hNv; unfold Ints at this; rw [← hqk.out] at this; exact this) (by intro u hu; obtain ⟨x, -, rfl⟩ := List.mem_map.1 hu; rfl)) (by unfold maxLen; omega) (by omega) hNv.size ?_
        intro v7 w7 ho7 hu7 hf7
        replace hu7 : Upd (At (.slice (some ⟨w6.heap.size, 0, none⟩) 0 0)) (w6.alloc (.cells #[] 3)) w7 := hu7
        have y0 := hu7.heap hv0 (fun h => by simp [At, Value.ownBlock] at h; omega)
        have y1 := hu7.heap hv1 (fun h => by simp [At, Value.ownBlock] at h; omega)
        have y2 := hu7.heap hv2 (fun h => by simp [At, Value.ownBlock] at h; omega)
        have hN7 : Upd Non (w6.alloc (.cells #[] 3)) w7 ∨ True := .inr trivial
        have hNw7 : Upd Non w w7 := hNv.trans hu7 fun k hk h => by simp [At, Value.ownBlock] at h; omega
        have hB7 := hBv.out.upd hu7 (fun k hk => by simp [At, Value.ownBlock] at hk; subst hk; exact hbN.out)
        have hI7 : Hid (Ints w7 v7 keep) := Lib.hid (by have := has_of_owns ho7; simp only [Nat.zero_add, List.nil_append] at this; rw [hqk.out] at this; exact this)
        have hg7 : ∀ k, At v7 k → w.heap.size ≤ k := fun k hk => own_ge ho7 hk
        try go_wp2_with fail
        refine hK.out _ _ (by exact ⟨y0, y1⟩) (fun hHeld => ?_)
        clear hK K hov hBv hv0 hv1 hv2 hN7 ho7 hu7 hf7
        try simp only [Act.put, List.setIfInBounds_toArray, List.set_cons_zero, List.set_cons_succ]
        refine wpAnyH_ready (rs := [10]) (by kernel_rfl) (by simp) ?_
        refine (AllReadyH.cons (o := ?oo2x2_0) ?ho2x2_0 ?hs2x2_0 AllReadyH.nil)
        case ho2x2_0 => (simp only [List.getElem?_toArray, List.getElem?_cons_succ, List.getElem?_cons_zero]; rfl)
        case hs2x2_0 =>
          intro K hK
          go_simp
          go_at_call 9
          refine (cD.out _ _ _ _ _ hB7 _ hI7.out (fun _ k hk hF => by have := hlt.out _ hF; have := hg7 _ hk; omega)).mono ?_
          rintro en w8 ⟨rfl, F6, hB8, hu8⟩
          have z0 := hu8.heap y0 (fun h => by have := hlt.out _ h; omega)
          have z1 := hu8.heap y1 (fun h => by have := hlt.out _ h; omega)
          have z2 := hu8.heap y2 (fun h => by have := hlt.out _ h; omega)
          try go_wp2_with fail
          refine hK.out _ _ (by exact ⟨z0, z1⟩) (fun hHeld => ?_)
          clear hK K y0 y1 y2
          try simp only [Act.put, List.setIfInBounds_toArray, List.set_cons_zero, List.set_cons_succ]
          (refine wpAnyH_take (i := 11) (oi := ?oi_2x3) (v := ?v_2x3) ?ho_2x3 ?hs_2x3 ?hf_2x3 ?hr_2x3 ?hQ_2x3 ?hy_2x3 ?hS_2x3 ?rest_2x3; (case hr_2x3 => kernel_rfl); (case hf_2x3 => kernel_rfl); (case hs_2x3 => kernel_rfl); (case ho_2x3 => (simp only [List.getElem?_toArray, List.getElem?_cons_succ, List.getElem?_cons_zero]; rfl)); (case hS_2x3 => assumption); (case hQ_2x3 => exact fun _ _ _ h => h); (case hy_2x3 => (refine Or.inl ⟨by rfl, ?_⟩; (intro w hSw; obtain ⟨s0, s1⟩ := hSw; obtain ⟨e0, g0⟩ := cells_of s0; obtain ⟨e1, g1⟩ := cells_of s1; go_simp) <;> with_reducible rfl)); (try simp only [Act.put, List.setIfInBounds_toArray, List.set_cons_zero, List.set_cons_succ]))
          (refine wpAnyH_take (i := 12) (oi := ?oi_2x4) (v := ?v_2x4) ?ho_2x4 ?hs_2x4 ?hf_2x4 ?hr_2x4 ?hQ_2x4 ?hy_2x4 ?hS_2x4 ?rest_2x4; (case hr_2x4 => kernel_rfl); (case hf_2x4 => kernel_rfl); (case hs_2x4 => kernel_rfl); (case ho_2x4 => (simp only [List.getElem?_toArray, List.getElem?_cons_succ, List.getElem?_cons_zero]; rfl)); (case hS_2x4 => assumption); (case hQ_2x4 => exact fun _ _ _ h => h); (case hy_2x4 => (refine Or.inl ⟨by rfl, ?_⟩; (intro w hSw; obtain ⟨s0, s1⟩ := hSw; obtain ⟨e0, g0⟩ := cells_of s0; obtain ⟨e1, g1⟩ := cells_of s1; go_simp) <;> with_reducible rfl)); (try simp only [Act.put, List.setIfInBounds_toArray, List.set_cons_zero, List.set_cons_succ]))
          refine wpAnyH_ready (rs := [13]) (by kernel_rfl) (by simp) ?_
          refine (AllReadyH.cons (o := ?oo2x5_0) ?ho2x5_0 ?hs2x5_0 AllReadyH.nil)
          case ho2x5_0 => (simp only [List.getElem?_toArray, List.getElem?_cons_succ, List.getElem?_cons_zero]; rfl)
          case hs2x5_0 =>
            intro K hK
            refine step_store_blk rfl 48 _ _ rfl (w.heap.size + 1 + 1) #[.int .i64 m9, .slice ka9 kn9 kc9, .slice none 0 0, .int .i64 (-1), .bool false] _ _ rfl rfl z2 rfl hs5.out (by simp [Value.oneCell']) ?_
            intro w9 hT9 hu9
            have x0 := hu9.heap z0 (fun h => by omega)
            have x1 := hu9.heap z1 (fun h => by omega)
            try go_wp2_with fail
            refine hK.out _ _ (by exact ⟨x0, x1⟩) (fun hHeld => ?_)
            clear hK K
            try simp only [Act.put, List.setIfInBounds_toArray, List.set_cons_zero, List.set_cons_succ]
            (refine wpAnyH_take (i := 14) (oi := ?oi_2x6) (v := ?v_2x6) ?ho_2x6 ?hs_2x6 ?hf_2x6 ?hr_2x6 ?hQ_2x6 ?hy_2x6 ?hS_2x6 ?rest_2x6; (case hr_2x6 => kernel_rfl); (case hf_2x6 => kernel_rfl); (case hs_2x6 => kernel_rfl); (case ho_2x6 => (simp only [List.getElem?_toArray, List.getElem?_cons_succ, List.getElem?_cons_zero]; rfl)); (case hS_2x6 => assumption); (case hQ_2x6 => exact fun _ _ _ h => h); (case hy_2x6 => (refine Or.inl ⟨by rfl, ?_⟩; (intro w hSw; obtain ⟨s0, s1⟩ := hSw; obtain ⟨e0, g0⟩ := cells_of s0; obtain ⟨e1, g1⟩ := cells_of s1; go_simp) <;> with_reducible rfl)); (try simp only [Act.put, List.setIfInBounds_toArray, List.set_cons_zero, List.set_cons_succ]))
            refine wpAnyH_done (by kernel_rfl) ?_ _
            have hUF : Upd F w w9 := (hNw7.non.trans hu8 fun k _ h => h).trans hu9 fun k hk h => by omega
            have hB9 := (hB8.upd hu9 (fun k hk => by subst hk; exact hb2x.out)).sub (B' := B) (fun k hk => hBB.out k hk)
            obtain ⟨c1, f1⟩ := cells_of hT9
            clear hu9 hB8 hu8 hHeld
            go_wp2_with fail
            refine bodyPost_ret (v := .tuple #[.pointer (some ⟨D, 0, none⟩), .agg #[.int .i64 m9, .slice ka9 kn9 kc9, .slice none 0 0, .int .i64 (-1), .bool false], .bool true]) (by simp [results, Try.results20, go_sem, c1]; try rfl) rfl ⟨D, F6, _, _, _, _, by rw [hrf.out], hB9, hS.out.1, hS.out.2.1, hS.out.2.2, hUF⟩
  case hs28_1 =>
    have hA6 : Upd Non w5 (w5.drew.alloc (.cells #[] 3)) := (Upd.drew Non w5).then_alloc _
    have y0 := hA6.heap hx0 fun h => h
    have y1 := hA6.heap hx1 fun h => h
    have y2 := hA6.heap hx2 fun h => h
    have hN6 := hN5.trans hA6 fun _ _ h => h
    have hB6 := Lib.hid (hB5.out.grow hA6)
    have ho6 := Lib.hid (World.ownsRow_lit (e := 3) (base := w.heap.size) (size := 1) w5.drew #[] 0 (show w.heap.size ≤ w5.heap.size by omega) (Nat.zero_le _) rfl)
    have hbN : Hid ((B w5.heap.size ∨ (w.heap.size ≤ w5.heap.size ∧ w5.heap.size < w5.heap.size)) ∨ (w5.heap.size ≤ w5.heap.size ∧ w5.heap.size < (w5.drew.alloc (.cells #[] 3)).heap.size)) := Lib.hid (.inr ⟨Nat.le_refl _, by simp⟩)
    have hb2x : Hid ((B (w.heap.size + 1 + 1) ∨ (w.heap.size ≤ w.heap.size + 1 + 1 ∧ w.heap.size + 1 + 1 < w5.heap.size)) ∨ (w5.heap.size ≤ w.heap.size + 1 + 1 ∧ w.heap.size + 1 + 1 < (w5.drew.alloc (.cells #[] 3)).heap.size)) := Lib.hid (.inl hb2.out)
    have hBB : Hid (∀ k, B k → (B k ∨ (w.heap.size ≤ k ∧ k < w5.heap.size)) ∨ (w5.heap.size ≤ k ∧ k < (w5.drew.alloc (.cells #[] 3)).heap.size)) := Lib.hid (fun k hk => .inl (.inl hk))
    intro K hK
    go_simp
    try go_wp2_with fail
    refine hK.out _ _ (by exact ⟨y0, y1⟩) (fun hHeld => ?_)
    clear hK K
    try simp only [Act.put, List.setIfInBounds_toArray, List.set_cons_zero, List.set_cons_succ]
    refine wpAnyH_ready (rs := [4]) (by kernel_rfl) (by simp) ?_
    refine (AllReadyH.cons (o := ?oo210_0) ?ho210_0 ?hs210_0 AllReadyH.nil)
    case ho210_0 => (simp only [List.getElem?_toArray, List.getElem?_cons_succ, List.getElem?_cons_zero]; rfl)
    case hs210_0 =>
      intro K hK
      go_simp
      go_at_call 34
      refine (cR.out _ _ hB6.out (hI.out _ hN6)).mono ?_
      rintro en w6 ⟨m9, ka9, kn9, kc9, rfl, hrf, hBv, hu6⟩
      have hv0 := hu6.heap y0 fun h => h
      have hv1 := hu6.heap y1 fun h => h
      have hv2 := hu6.heap y2 fun h => h
      have hNv : Upd Non w w6 := hN6.trans hu6 fun _ _ h => h
      have hz6 : w5.heap.size + 1 ≤ w6.heap.size := by have := hu6.size; simpa using this
      have hov := Lib.hid (hu6.owns ho6.out fun _ _ h => h)
      replace hrf := Lib.hid hrf
      replace hBv := Lib.hid hBv
      try go_wp2_with fail
      refine hK.out _ _ (by exact ⟨hv0, hv1⟩) (fun hHeld => ?_)
      clear hK K y0 y1 y2 hN6 hB6 ho6 hu6 cR
      try simp only [Act.put, List.setIfInBounds_toArray, List.set_cons_zero, List.set_cons_succ]
      refine wpAnyH_ready (rs := [9]) (by kernel_rfl) (by simp) ?_
      refine (AllReadyH.cons (o := ?oo2y1_0) ?ho2y1_0 ?hs2y1_0 AllReadyH.nil)
      case ho2y1_0 => (simp only [List.getElem?_toArray, List.getElem?_cons_succ, List.getElem?_cons_zero]; rfl)
      case hs2y1_0 =>
        intro K hK
        refine step_app rfl _ _ 23 23 rfl w.heap.size 3 (.int .i64 0) 1 8 Try.underlying23 hi8.out rfl _ 0 [] rfl hov.out (.slice va q vc) q (keep.map (.int .i64)) rfl (Src.ofHas Try.underlying23 (by have := hI.out _ hNv; unfold Ints at this; rw [← hqk.out] at this; exact this) (by intro u hu; obtain ⟨x, -, rfl⟩ := List.mem_map.1 hu; rfl)) (by unfold maxLen; omega) (by omega) hNv.size ?_
        intro v7 w7 ho7 hu7 hf7
        replace hu7 : Upd (At (.slice (some ⟨w5.heap.size, 0, none⟩) 0 0)) w6 w7 := hu7
        have y0 := hu7.heap hv0 (fun h => by simp [At, Value.ownBlock] at h; omega)
        have y1 := hu7.heap hv1 (fun h => by simp [At, Value.ownBlock] at h; omega)
        have y2 := hu7.heap hv2 (fun h => by simp [At, Value.ownBlock] at h; omega)
        have hN7 : Upd Non w6 w7 ∨ True := .inr trivial
        have hNw7 : Upd Non w w7 := hNv.trans hu7 fun k hk h => by simp [At, Value.ownBlock] at h; omega
        have hB7 := hBv.out.upd hu7 (fun k hk => by simp [At, Value.ownBlock] at hk; subst hk; exact hbN.out)
        have hI7 : Hid (Ints w7 v7 keep) := Lib.hid (by have := has_of_owns ho7; simp only [Nat.zero_add, List.nil_append] at this; rw [hqk.out] at this; exact this)
        have hg7 : ∀ k, At v7 k → w.heap.size ≤ k := fun k hk => own_ge ho7 hk
        try go_wp2_with fail
        refine hK.out _ _ (by exact ⟨y0, y1⟩) (fun hHeld => ?_)
        clear hK K hov hBv hv0 hv1 hv2 hN7 ho7 hu7 hf7
        try simp only [Act.put, List.setIfInBounds_toArray, List.set_cons_zero, List.set_cons_succ]
        refine wpAnyH_ready (rs := [10]) (by kernel_rfl) (by simp) ?_
        refine (AllReadyH.cons (o := ?oo2y2_0) ?ho2y2_0 ?hs2y2_0 AllReadyH.nil)
        case ho2y2_0 => (simp only [List.getElem?_toArray, List.getElem?_cons_succ, List.getElem?_cons_zero]; rfl)
        case hs2y2_0 =>
          intro K hK
          go_simp
          go_at_call 9
          refine (cD.out _ _ _ _ _ hB7 _ hI7.out (fun _ k hk hF => by have := hlt.out _ hF; have := hg7 _ hk; omega)).mono ?_
          rintro en w8 ⟨rfl, F6, hB8, hu8⟩
          have z0 := hu8.heap y0 (fun h => by have := hlt.out _ h; omega)
          have z1 := hu8.heap y1 (fun h => by have := hlt.out _ h; omega)
          have z2 := hu8.heap y2 (fun h => by have := hlt.out _ h; omega)
          try go_wp2_with fail
          refine hK.out _ _ (by exact ⟨z0, z1⟩) (fun hHeld => ?_)
          clear hK K y0 y1 y2
          try simp only [Act.put, List.setIfInBounds_toArray, List.set_cons_zero, List.set_cons_succ]
          (refine wpAnyH_take (i := 11) (oi := ?oi_2y3) (v := ?v_2y3) ?ho_2y3 ?hs_2y3 ?hf_2y3 ?hr_2y3 ?hQ_2y3 ?hy_2y3 ?hS_2y3 ?rest_2y3; (case hr_2y3 => kernel_rfl); (case hf_2y3 => kernel_rfl); (case hs_2y3 => kernel_rfl); (case ho_2y3 => (simp only [List.getElem?_toArray, List.getElem?_cons_succ, List.getElem?_cons_zero]; rfl)); (case hS_2y3 => assumption); (case hQ_2y3 => exact fun _ _ _ h => h); (case hy_2y3 => (refine Or.inl ⟨by rfl, ?_⟩; (intro w hSw; obtain ⟨s0, s1⟩ := hSw; obtain ⟨e0, g0⟩ := cells_of s0; obtain ⟨e1, g1⟩ := cells_of s1; go_simp) <;> with_reducible rfl)); (try simp only [Act.put, List.setIfInBounds_toArray, List.set_cons_zero, List.set_cons_succ]))
          (refine wpAnyH_take (i := 12) (oi := ?oi_2y4) (v := ?v_2y4) ?ho_2y4 ?hs_2y4 ?hf_2y4 ?hr_2y4 ?hQ_2y4 ?hy_2y4 ?hS_2y4 ?rest_2y4; (case hr_2y4 => kernel_rfl); (case hf_2y4 => kernel_rfl); (case hs_2y4 => kernel_rfl); (case ho_2y4 => (simp only [List.getElem?_toArray, List.getElem?_cons_succ, List.getElem?_cons_zero]; rfl)); (case hS_2y4 => assumption); (case hQ_2y4 => exact fun _ _ _ h => h); (case hy_2y4 => (refine Or.inl ⟨by rfl, ?_⟩; (intro w hSw; obtain ⟨s0, s1⟩ := hSw; obtain ⟨e0, g0⟩ := cells_of s0; obtain ⟨e1, g1⟩ := cells_of s1; go_simp) <;> with_reducible rfl)); (try simp only [Act.put, List.setIfInBounds_toArray, List.set_cons_zero, List.set_cons_succ]))
          refine wpAnyH_ready (rs := [13]) (by kernel_rfl) (by simp) ?_
          refine (AllReadyH.cons (o := ?oo2y5_0) ?ho2y5_0 ?hs2y5_0 AllReadyH.nil)
          case ho2y5_0 => (simp only [List.getElem?_toArray, List.getElem?_cons_succ, List.getElem?_cons_zero]; rfl)
          case hs2y5_0 =>
            intro K hK
            refine step_store_blk rfl 48 _ _ rfl (w.heap.size + 1 + 1) #[.int .i64 m9, .slice ka9 kn9 kc9, .slice none 0 0, .int .i64 (-1), .bool false] _ _ rfl rfl z2 rfl hs5.out (by simp [Value.oneCell']) ?_
            intro w9 hT9 hu9
            have x0 := hu9.heap z0 (fun h => by omega)
            have x1 := hu9.heap z1 (fun h => by omega)
            try go_wp2_with fail
            refine hK.out _ _ (by exact ⟨x0, x1⟩) (fun hHeld => ?_)
            clear hK K
            try simp only [Act.put, List.setIfInBounds_toArray, List.set_cons_zero, List.set_cons_succ]
            (refine wpAnyH_take (i := 14) (oi := ?oi_2y6) (v := ?v_2y6) ?ho_2y6 ?hs_2y6 ?hf_2y6 ?hr_2y6 ?hQ_2y6 ?hy_2y6 ?hS_2y6 ?rest_2y6; (case hr_2y6 => kernel_rfl); (case hf_2y6 => kernel_rfl); (case hs_2y6 => kernel_rfl); (case ho_2y6 => (simp only [List.getElem?_toArray, List.getElem?_cons_succ, List.getElem?_cons_zero]; rfl)); (case hS_2y6 => assumption); (case hQ_2y6 => exact fun _ _ _ h => h); (case hy_2y6 => (refine Or.inl ⟨by rfl, ?_⟩; (intro w hSw; obtain ⟨s0, s1⟩ := hSw; obtain ⟨e0, g0⟩ := cells_of s0; obtain ⟨e1, g1⟩ := cells_of s1; go_simp) <;> with_reducible rfl)); (try simp only [Act.put, List.setIfInBounds_toArray, List.set_cons_zero, List.set_cons_succ]))
            refine wpAnyH_done (by kernel_rfl) ?_ _
            have hUF : Upd F w w9 := (hNw7.non.trans hu8 fun k _ h => h).trans hu9 fun k hk h => by omega
            have hB9 := (hB8.upd hu9 (fun k hk => by subst hk; exact hb2x.out)).sub (B' := B) (fun k hk => hBB.out k hk)
            obtain ⟨c1, f1⟩ := cells_of hT9
            clear hu9 hB8 hu8 hHeld
            go_wp2_with fail
            refine bodyPost_ret (v := .tuple #[.pointer (some ⟨D, 0, none⟩), .agg #[.int .i64 m9, .slice ka9 kn9 kc9, .slice none 0 0, .int .i64 (-1), .bool false], .bool true]) (by simp [results, Try.results20, go_sem, c1]; try rfl) rfl ⟨D, F6, _, _, _, _, by rw [hrf.out], hB9, hS.out.1, hS.out.2.1, hS.out.2.2, hUF⟩
end Go.Proofs.Ytgkiglodhhlnmaa
