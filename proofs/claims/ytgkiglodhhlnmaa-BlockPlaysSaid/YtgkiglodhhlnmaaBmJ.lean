/- step: Copy. -/
import Derived.Test.YtgkiglodhhlnmaaBmI
import Derived.Test.YtgkiglodhhlnmaaLibB
import Derived.Lib.SliceRun
namespace Go.Proofs.Ytgkiglodhhlnmaa
open Go.RowKit Go.Amb Go.Shelf
set_option linter.unusedVariables false
set_option linter.unusedSimpArgs false
set_option maxRecDepth 100000
theorem Bth.copy {B : Nat → Prop} {w0 w w' : World} {D D' : Nat} {F F' : Nat → Prop} {d r : Dk} {kv pv : Value} (h : Bth B w0 w D F d r kv pv) (hD : DiskAt w' D' F' d) (hu : Upd Non w w') (hF : ∀ k, F' k → w.heap.size ≤ k) : Bth B w0 w' D' F' d r kv pv := by
  have hz := hu.size
  have hz0 := h.lv.upd.size
  have h' := h.non hu
  refine ⟨⟨hD, h'.lv.upd, fun k hk => by have := hF k hk; omega⟩, h'.rat, fun k hat => ?_, fun k hat => ?_, fun k hb => ?_⟩
  · have := h.ka k hat; exact ⟨fun hk => by have := hF k hk; omega, this.2.1, by omega⟩
  · have := h.pa k hat; exact ⟨fun hk => by have := hF k hk; omega, this.2.1, by omega⟩
  · obtain ⟨b1, b2, b3, b4, b5⟩ := h.bs k hb
    exact ⟨fun hk => by have := hF k hk; omega, b2, b3, b4, by omega⟩
theorem Bth.other {B S : Nat → Prop} {w0 w w' : World} {D : Nat} {F : Nat → Prop} {d r : Dk} {kv pv : Value} (h : Bth B w0 w D F d r kv pv) (hu : Upd S w w') (hS : ∀ k, S k → ¬ F k ∧ ¬ At kv k ∧ ¬ At pv k ∧ w0.heap.size ≤ k) : Bth B w0 w' D F d r kv pv := by
  have hz := hu.size
  refine ⟨⟨h.lv.at_.upd hu fun k hF hs => (hS k hs).1 hF, h.lv.upd.trans hu fun k hk hs => by have := (hS k hs).2.2.2; omega, h.lv.own⟩,
    h.rat.upd hu (fun k hk hs => (hS k hs).2.1 hk) (fun k hk hs => (hS k hs).2.2.1 hk), fun k hk => ?_, fun k hk => ?_, fun k hk => ?_⟩
  · have := h.ka k hk; exact ⟨this.1, this.2.1, by omega⟩
  · have := h.pa k hk; exact ⟨this.1, this.2.1, by omega⟩
  · obtain ⟨b1, b2, b3, b4, b5⟩ := h.bs k hk; exact ⟨b1, b2, b3, b4, by omega⟩
set_option maxHeartbeats 4000000 in
theorem stepCopy {B : Nat → Prop} {w0 w : World} {D : Nat} {F : Nat → Prop} {d r : Dk} {kv pv : Value} (h : Bth B w0 w D F d r kv pv) (hs : Same d r) (hP : d.P.length ≤ 1000) (i : Int) (s : List UInt8) (va : Option Addr) (q vc : Nat) :
    Calls Try.prog 20 #[.pointer (some ⟨D, 0, none⟩), rfv r kv pv, .agg #[.int .i64 5, .int .i64 i, .string ⟨s.toArray⟩, .slice va q vc]] w (Stp B w0 w F d) := by
  have hok := h.lv.at_.ok
  have e1 : r.P.length = d.P.length := by rw [hs.p]
  have e2 : r.K.length = d.K.length := by rw [hs.k, List.length_map]
  have e3 := hok.n1
  have e4 := hok.n2
  have e5 : -1 ≤ r.f := by rw [← hs.f]; exact hok.f1
  have e6 : r.f < 9223372036854775808 := by rw [← hs.f]; exact hok.f2
  have hPl : Hid (d.P.length ≤ d.P.length + 1) := Lib.hid (Nat.le_succ _)
  have hB := Lib.hid h
  have cC : Hid (∀ (w' : World) (B' : Nat → Prop), Bth B' w0 w' D F d r kv pv → Calls Try.prog 23 #[.pointer (some ⟨D, 0, none⟩)] w' (fun en w9 => ∃ D' F', en = .returned (.pointer (some ⟨D', 0, none⟩)) ∧ Bth B' w0 w9 D' F' d r kv pv ∧ Upd Non w' w9 ∧ Lv w0 D w9 F d ∧ (∀ k, F' k → w'.heap.size ≤ k))) :=
    Lib.hid (fun w' B' hB => (lCopy hB.lv.at_ (by omega)).mono fun en w9 ⟨D', F', he, hD, hu, hF⟩ => ⟨D', F', he, hB.copy hD hu hF, hu, hB.lv.non hu, hF⟩)
  have cW : Hid (∀ (w' : World), Lv w0 D w' F d → ∀ v, Bytes w' v [122, 122] → (∀ k, At v k → ¬ F k) → Calls Try.prog 10 #[.pointer (some ⟨D, 0, none⟩), .int .i64 0, v] w' (fun en w9 => ∃ e, en = .returned (.int .i64 e) ∧ ∃ F', Lv w0 D w9 F' (d.write 0 [122, 122]).1 ∧ Kp w' F w9 F')) :=
    Lib.hid (fun w' hL v hv hn => (lvWrite hL (by omega) 0 [122, 122] v hv hn).mono fun en w9 hc => ⟨_, hc⟩)
  have hP9 := write_P d 0 [122, 122]
  have cK : Hid (∀ (w' : World) (F' : Nat → Prop), Lv w0 D w' F' (d.write 0 [122, 122]).1 → Calls Try.prog 9 #[.pointer (some ⟨D, 0, none⟩), .slice none 0 0] w' (fun en w9 => en = .returned (.int .i64 0) ∧ ∃ F'', Kp w' F' w9 F'')) :=
    Lib.hid (fun w' F' hL => (lvCrash hL (by omega) (.slice none 0 0) [] (Has.nil _ _) (fun _ k hk => by simp [At, Value.ownBlock] at hk)).mono fun en w9 ⟨he, F'', hL', hk⟩ => ⟨he, F'', hk⟩)
  have hS : Hid (Same d r ∧ d.P.length ≤ d.P.length + 1) := Lib.hid ⟨hs, Nat.le_succ _⟩
  have hFo := Lib.hid h.lv.own
  clear hP9

  have hs5 := Lib.hid size_disk5
  have hlt : Hid (∀ k, F k → k < w.heap.size) := Lib.hid h.lv.at_.lt
  obtain ⟨m, ka, kn, kc, pa, pn, pc, f, dd, hlit⟩ := rfv_lit h.rat
  try rw [hlit] at cR
  rw [hlit]
  replace hlit := Lib.hid hlit
  clear e1 e2 e3 e4 e5 e6 hok hs hP h hPl
  have hkc := fun (w : World) (C : Array Value) (n c : Nat) => Lib.run_convert_bytes_const (P := Try.prog) w 30 5 C n c Try.underlying30 Try.underlying5
  go_enter Try.func20, Try.ntmps20
  go_wp2_with fail
  obtain ⟨w5, hw5⟩ : ∃ w5 : World, w5 = (((w.alloc (.cells #[.int .i64 m, .slice ka kn kc, .slice pa pn pc, .int .i64 f, .bool dd] 48)).alloc (.cells #[.int .i64 5, .int .i64 i, .string ⟨s.toArray⟩, .slice va q vc] 34)).alloc (.cells #[.int .i64 0, .slice none 0 0, .slice none 0 0, .int .i64 0, .bool false] 48)) := ⟨_, rfl⟩
  rw [← hw5]
  have hu5 : Upd Non (((w.alloc (.cells #[.int .i64 m, .slice ka kn kc, .slice pa pn pc, .int .i64 f, .bool dd] 48)).alloc (.cells #[.int .i64 5, .int .i64 i, .string ⟨s.toArray⟩, .slice va q vc] 34)).alloc (.cells #[.int .i64 0, .slice none 0 0, .slice none 0 0, .int .i64 0, .bool false] 48)) w5 := by rw [hw5]; exact Upd.refl _ _
  obtain ⟨hx0, hx1, hx2, hz⟩ := upd_three hu5 (fun _ h => h.elim)
  have hN5 : Upd Non w w5 := (((Upd.alloc Non w _).then_alloc _).then_alloc _).trans hu5 fun _ _ h => h
  have hb2 : Hid (B (w.heap.size + 1 + 1) ∨ (w.heap.size ≤ w.heap.size + 1 + 1 ∧ w.heap.size + 1 + 1 < w5.heap.size)) := Lib.hid (.inr ⟨by omega, by omega⟩)
  have hB5 := Lib.hid (hB.out.grow hN5)
  clear hu5 hw5
  refine (cC.out _ _ hB5.out).mono ?_
  rintro en w6 ⟨D', F', rfl, hB6, hu6, hL6, hF6⟩
  have y0 := hu6.heap hx0 fun h => h
  have y2 := hu6.heap hx2 fun h => h
  have hN6 := hN5.trans hu6 fun _ _ h => h
  have hz6 := hu6.size
  replace hB6 := Lib.hid hB6
  clear hx0 hx1 hx2 hu6 cC hN5 hB5
  simp only []
  have hA6 := Upd.alloc Non w6 (.cells #[.int .u8 122, .int .u8 122] 5 (2, 3))
  have hL6' := Lib.hid (hL6.non hA6)
  have hW1 : Bytes (w6.alloc (.cells #[.int .u8 122, .int .u8 122] 5 (2, 3))) (.slice (some ⟨w6.heap.size, 0, none⟩) 2 2) [122, 122] := bytes_const w6 5 [122, 122] (2, 3) (by decide)
  replace hW1 := Lib.hid hW1
  replace hL6 := Lib.hid hL6
  go_wp2_with fail
  refine (cW.out _ hL6'.out _ hW1.out (fun k hk hF => by have := hL6.out.at_.lt k hF; have := at_of hk; omega)).mono ?_
  rintro en w7 ⟨e, rfl, F7, hL7, hk7⟩
  replace hL7 := Lib.hid hL7
  replace hk7 : Hid (Kp (w6.alloc (.cells #[.int .u8 122, .int .u8 122] 5 (2, 3))) F w7 F7) := Lib.hid hk7
  clear cW hW1 hL6' hkc
  simp only []
  go_wp2_with fail
  refine (cK.out _ _ hL7.out).mono ?_
  rintro en w9 ⟨rfl, F9, hk9⟩
  have hk := hk7.out.trans hk9
  have hk6 : Upd F w6 w9 := (hA6.non).trans hk.upd fun k _ h => h
  have hlt' := hlt.out
  have z0 := hk6.heap y0 (fun h => by have := hlt' _ h; omega)
  have z2 := hk6.heap y2 (fun h => by have := hlt' _ h; omega)
  have hUw : Upd F w w9.drew := (hN6.non.trans hk6 fun k _ h => h).then_drew
  have y2d : w9.drew.heap[w.heap.size + 1 + 1]? = _ := z2
  have hB7 := Lib.hid ((hB6.out.other hk6 (fun k hF => by
    have h1 := hFo.out k hF
    have h2 := hB.out.lv.at_.lt k hF
    exact ⟨fun hF' => by have := hF6 k hF'; omega, fun hat => (hB.out.ka k hat).1 hF, fun hat => (hB.out.pa k hat).1 hF, h1⟩)).non (Upd.drew Non w9))
  clear hk9 hk hL7 hk7 hk6 hA6 cK hL6 hN6 hF6
  simp only []
  go_wp2_with fail
  refine wp_region_held_drew (S := fun w' => w'.heap[w.heap.size]? = some (.cells #[.int .i64 m, .slice ka kn kc, .slice pa pn pc, .int .i64 f, .bool dd] 48 (0, 0))) (by kernel_rfl) (by exact z0) (fun hHeld => ?_)
  (refine wpAnyH_take (i := 0) (oi := ?oi_51) (v := ?v_51) ?ho_51 ?hs_51 ?hf_51 ?hr_51 ?hQ_51 ?hy_51 ?hS_51 ?rest_51; (case hr_51 => kernel_rfl); (case hf_51 => kernel_rfl); (case hs_51 => kernel_rfl); (case ho_51 => (simp only [List.getElem?_toArray, List.getElem?_cons_succ, List.getElem?_cons_zero]; rfl)); (case hS_51 => assumption); (case hQ_51 => exact fun _ _ _ h => h); (case hy_51 => (refine Or.inl ⟨by rfl, ?_⟩; (intro w hSw; obtain ⟨e0, g0⟩ := cells_of hSw; go_simp) <;> with_reducible rfl)); (try simp only [Act.put, List.setIfInBounds_toArray, List.set_cons_zero, List.set_cons_succ]))
  (refine wpAnyH_take (i := 1) (oi := ?oi_52) (v := ?v_52) ?ho_52 ?hs_52 ?hf_52 ?hr_52 ?hQ_52 ?hy_52 ?hS_52 ?rest_52; (case hr_52 => kernel_rfl); (case hf_52 => kernel_rfl); (case hs_52 => kernel_rfl); (case ho_52 => (simp only [List.getElem?_toArray, List.getElem?_cons_succ, List.getElem?_cons_zero]; rfl)); (case hS_52 => assumption); (case hQ_52 => exact fun _ _ _ h => h); (case hy_52 => (refine Or.inl ⟨by rfl, ?_⟩; (intro w hSw; obtain ⟨e0, g0⟩ := cells_of hSw; go_simp) <;> with_reducible rfl)); (try simp only [Act.put, List.setIfInBounds_toArray, List.set_cons_zero, List.set_cons_succ]))
  (refine wpAnyH_take (i := 2) (oi := ?oi_53) (v := ?v_53) ?ho_53 ?hs_53 ?hf_53 ?hr_53 ?hQ_53 ?hy_53 ?hS_53 ?rest_53; (case hr_53 => kernel_rfl); (case hf_53 => kernel_rfl); (case hs_53 => kernel_rfl); (case ho_53 => (simp only [List.getElem?_toArray, List.getElem?_cons_succ, List.getElem?_cons_zero]; rfl)); (case hS_53 => assumption); (case hQ_53 => exact fun _ _ _ h => h); (case hy_53 => (refine Or.inl ⟨by rfl, ?_⟩; (intro w hSw; obtain ⟨e0, g0⟩ := cells_of hSw; go_simp) <;> with_reducible rfl)); (try simp only [Act.put, List.setIfInBounds_toArray, List.set_cons_zero, List.set_cons_succ]))
  (refine wpAnyH_take (i := 3) (oi := ?oi_54) (v := ?v_54) ?ho_54 ?hs_54 ?hf_54 ?hr_54 ?hQ_54 ?hy_54 ?hS_54 ?rest_54; (case hr_54 => kernel_rfl); (case hf_54 => kernel_rfl); (case hs_54 => kernel_rfl); (case ho_54 => (simp only [List.getElem?_toArray, List.getElem?_cons_succ, List.getElem?_cons_zero]; rfl)); (case hS_54 => assumption); (case hQ_54 => exact fun _ _ _ h => h); (case hy_54 => (refine Or.inl ⟨by rfl, ?_⟩; (intro w hSw; obtain ⟨e0, g0⟩ := cells_of hSw; go_simp) <;> with_reducible rfl)); (try simp only [Act.put, List.setIfInBounds_toArray, List.set_cons_zero, List.set_cons_succ]))
  (refine wpAnyH_take (i := 4) (oi := ?oi_55) (v := ?v_55) ?ho_55 ?hs_55 ?hf_55 ?hr_55 ?hQ_55 ?hy_55 ?hS_55 ?rest_55; (case hr_55 => kernel_rfl); (case hf_55 => kernel_rfl); (case hs_55 => kernel_rfl); (case ho_55 => (simp only [List.getElem?_toArray, List.getElem?_cons_succ, List.getElem?_cons_zero]; rfl)); (case hS_55 => assumption); (case hQ_55 => exact fun _ _ _ h => h); (case hy_55 => (refine Or.inl ⟨by rfl, ?_⟩; (intro w hSw; obtain ⟨e0, g0⟩ := cells_of hSw; go_simp) <;> with_reducible rfl)); (try simp only [Act.put, List.setIfInBounds_toArray, List.set_cons_zero, List.set_cons_succ]))
  refine wpAnyH_ready (rs := [5]) (by kernel_rfl) (by simp) ?_
  refine (AllReadyH.cons (o := ?oo56_0) ?ho56_0 ?hs56_0 AllReadyH.nil)
  case ho56_0 => (simp only [List.getElem?_toArray, List.getElem?_cons_succ, List.getElem?_cons_zero]; rfl)
  case hs56_0 =>
    intro K hK
    refine step_store_blk rfl 48 _ _ rfl (w.heap.size + 1 + 1) #[.int .i64 m, .slice ka kn kc, .slice pa pn pc, .int .i64 f, .bool dd] _ _ rfl rfl y2d rfl hs5.out (by simp [Value.oneCell']) ?_
    intro w8 hT8 hu8
    try go_wp2_with fail
    refine hK.out _ _ (by exact hu8.heap z0 (fun h => by omega)) (fun hHeld => ?_)
    clear hK K
    try simp only [Act.put, List.setIfInBounds_toArray, List.set_cons_zero, List.set_cons_succ]
    (refine wpAnyH_take (i := 6) (oi := ?oi_57) (v := ?v_57) ?ho_57 ?hs_57 ?hf_57 ?hr_57 ?hQ_57 ?hy_57 ?hS_57 ?rest_57; (case hr_57 => kernel_rfl); (case hf_57 => kernel_rfl); (case hs_57 => kernel_rfl); (case ho_57 => (simp only [List.getElem?_toArray, List.getElem?_cons_succ, List.getElem?_cons_zero]; rfl)); (case hS_57 => assumption); (case hQ_57 => exact fun _ _ _ h => h); (case hy_57 => (refine Or.inl ⟨by rfl, ?_⟩; (intro w hSw; obtain ⟨e0, g0⟩ := cells_of hSw; go_simp) <;> with_reducible rfl)); (try simp only [Act.put, List.setIfInBounds_toArray, List.set_cons_zero, List.set_cons_succ]))
    refine wpAnyH_done (by kernel_rfl) ?_ _
    have hUF : Upd F w w8 := hUw.trans hu8 fun k hk h => by omega
    have hB8 := (hB7.out.upd hu8 (fun k hk => by subst hk; exact hb2.out)).sub (B' := B) (fun k hk => .inl hk)
    obtain ⟨c1, f1⟩ := cells_of hT8
    clear hu8 hB7
    go_wp2_with fail
    refine bodyPost_ret (v := .tuple #[.pointer (some ⟨D', 0, none⟩), .agg #[.int .i64 m, .slice ka kn kc, .slice pa pn pc, .int .i64 f, .bool dd], .bool true]) (by simp [results, Try.results20, go_sem, c1]; try rfl) rfl ⟨D', F', _, _, _, _, by rw [hlit.out], hB8, hS.out.1, hS.out.2, rfl, hUF⟩
end Go.Proofs.Ytgkiglodhhlnmaa
