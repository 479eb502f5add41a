/- ring.run: the iterator. (Its drawn region is printed by gen/mkrun06.py.) -/
import Derived.Test.YtmnoldikimcafaaMRgB
import Derived.Test.YtmnoldikimcafaaMLsA
import Derived.Test.YtmnoldikimcafaaMLibF
import Derived.Shelf.RegionOpen
import Derived.WalkKit
namespace Go.Proofs.Ytmnoldikimcafaa
open Go.RowKit Go.Amb Go.Shelf
set_option linter.unusedVariables false
set_option linter.unusedSimpArgs false
set_option maxRecDepth 100000
attribute [local go_sem] Oper.semAt_some
/-- The slots that a ring goes through, from the k-th on. -/
def runS (d : Dk) (r : Rn) (e : Int) (k : Nat) : Nat → List S5
  | 0 => []
  | n + 1 => if (atS d (r.place (r.st + k))).2 = true ∧ (atS d (r.place (r.st + k))).1.q = r.st + k ∧ ¬ (atS d (r.place (r.st + k))).1.e < e then (atS d (r.place (r.st + k))).1 :: runS d r (atS d (r.place (r.st + k))).1.e (k + 1) n else []
theorem DiskAt.stay {w w' : World} {D : Nat} {F : Nat → Prop} {d : Dk} (h : DiskAt w D F d) (hs : ∀ k, F k → w'.heap[k]? = w.heap[k]?) : DiskAt w' D F d := by
  obtain ⟨g, ck, pv, hX, hK, hP, h1, h2, h3, hF⟩ := h.ex
  exact ⟨h.ok, g, ck, pv, (hs _ ((hF _).2 (.inl rfl))).trans hX, owns_heap hK (fun k hk => hs k ((hF k).2 (.inr (.inl (by simpa [At, Value.ownBlock, eq_comm] using hk))))), owns_heap hP (fun k hk => hs k ((hF k).2 (.inr (.inr hk)))), h1, h2, h3, hF⟩
theorem RingAt.stay {w w' : World} {R D : Nat} {G : Nat → Prop} {r : Rn} (h : RingAt w R D G r) (hs : ∀ k, G k → w'.heap[k]? = w.heap[k]?) : RingAt w' R D G r := by
  obtain ⟨vr, hX, hL, h1, hG⟩ := h.ex
  exact ⟨h.ok, vr, (hs _ ((hG _).2 (.inl rfl))).trans hX, owns_heap hL (fun k hk => hs k ((hG k).2 (.inr hk))), h1, hG⟩
abbrev encS (s : S5) : Array Value := #[s.v]
def RunK (F G : Nat → Prop) (br : Nat) : Nat → Prop := fun k => F k ∨ G k ∨ k = br
def F53 (u : Nat → Value) (y r e k s o x7 x8 x9 x10 : Value) : Act := { tmps := #[y, r, e, undef, k, s, o, x7, x8, x9, x10, k, u 12, u 13, u 14, u 15, u 16, u 17, u 18, u 19, u 20, u 21, u 22, u 23, u 24, u 25, u 26, u 27, u 28, u 29, u 30, u 31, u 32, u 33, u 34, u 35, u 36, u 37, u 38, u 39, u 40, u 41, u 42, u 43, u 44, u 45, u 46, u 47, u 48, u 49, u 50, u 51, u 52], defers := [] }
theorem F53_of (u0 u1 u2 u4 u5 u6 u7 u8 u9 u10 u12 u13 u14 u15 u16 u17 u18 u19 u20 u21 u22 u23 u24 u25 u26 u27 u28 u29 u30 u31 u32 u33 u34 u35 u36 u37 u38 u39 u40 u41 u42 u43 u44 u45 u46 u47 u48 u49 u50 u51 u52 : Value) : ({ tmps := #[u0, u1, u2, undef, u4, u5, u6, u7, u8, u9, u10, u4, u12, u13, u14, u15, u16, u17, u18, u19, u20, u21, u22, u23, u24, u25, u26, u27, u28, u29, u30, u31, u32, u33, u34, u35, u36, u37, u38, u39, u40, u41, u42, u43, u44, u45, u46, u47, u48, u49, u50, u51, u52], defers := [] } : Act) = F53 (fun n => ({ tmps := #[u0, u1, u2, undef, u4, u5, u6, u7, u8, u9, u10, undef, u12, u13, u14, u15, u16, u17, u18, u19, u20, u21, u22, u23, u24, u25, u26, u27, u28, u29, u30, u31, u32, u33, u34, u35, u36, u37, u38, u39, u40, u41, u42, u43, u44, u45, u46, u47, u48, u49, u50, u51, u52], defers := [] } : Act).tmps.getD n undef) u0 u1 u2 u4 u5 u6 u7 u8 u9 u10 := rfl
def RunKeep (F G : Nat → Prop) (br : Nat) (w W : World) : Prop := Stay (RunK F G br) w W ∧ w.heap.size ≤ W.heap.size
theorem RunKeep.upd {S F G : Nat → Prop} {br : Nat} {w W W' : World} (h : RunKeep F G br w W) (hlt : ∀ k, RunK F G br k → k < w.heap.size) (hu : Upd S W W') (hS : ∀ k, RunK F G br k → ¬ S k) : RunKeep F G br w W' :=
  ⟨fun k hk => (hu.block k (by have := hlt k hk; have := h.2; omega) (hS k hk)).trans (h.1 k hk), Nat.le_trans h.2 hu.size⟩
theorem size_slot : Hid ((Try.prog.info? 56).map (·.size) = some 5) := Lib.hid rfl
theorem runS_step (d : Dk) (r : Rn) (e : Int) (k n : Nat) (h : 0 < n) : runS d r e k n = if (atS d (r.place (r.st + k))).2 = true ∧ (atS d (r.place (r.st + k))).1.q = r.st + k ∧ ¬ (atS d (r.place (r.st + k))).1.e < e then (atS d (r.place (r.st + k))).1 :: runS d r (atS d (r.place (r.st + k))).1.e (k + 1) (n - 1) else [] := by
  obtain ⟨m, rfl⟩ : ∃ m, n = m + 1 := ⟨n - 1, by omega⟩
  rw [runS]; rfl
set_option maxHeartbeats 4000000 in
theorem iter_run {w0 : World} {R D br b : Nat} {F G : Nat → Prop} {d : Dk} {r : Rn} {e : Int} (hR : RingAt w0 R D G r) (hD : DiskAt w0 D F d) (hn : d.P.length ≤ 1000000)
    (hbr : w0.heap[br]? = some (.cells #[.pointer (some ⟨R, 0, none⟩)] 29 (0, 0))) (hb : w0.heap[b]? = some (.cells #[.int .i64 e] 3 (0, 0))) (hbK : ¬ RunK F G br b) :
    IterB Try.prog 41 #[.pointer (some ⟨br, 0, none⟩), .pointer (some ⟨b, 0, none⟩)] encS (runS d r e 0 r.cn) (RunK F G br) b w0 := by
  intro y J W hSt hbW hZ hJu hY h0
  have hlt : ∀ k, RunK F G br k → k < w0.heap.size := by
    rintro k (hk | hk | rfl)
    · exact hD.lt k hk
    · exact hR.lt k hk
    · exact heap_lt hbr
  obtain ⟨fr, cn, st, nx, ep, L⟩ := r
  have ok := hR.ok
  obtain ⟨h1, h2, h3, h4, h5, h6, -⟩ := ok
  simp only at h1 h2 h3 h4 h5 h6
  simp only at hY ⊢
  generalize hXX : runS d ⟨fr, cn, st, nx, ep, L⟩ e 0 cn = X at *
  obtain ⟨Y, hYd⟩ : ∃ Y : Nat → S5 × Bool, (fun k : Nat => atS d (Rn.place ⟨fr, cn, st, nx, ep, L⟩ (st + k))) = Y := ⟨_, rfl⟩
  have hYk : Hid (∀ k : Nat, atS d (Rn.place ⟨fr, cn, st, nx, ep, L⟩ (st + k)) = Y k) := Lib.hid (fun k => by rw [← hYd])
  replace hXX := Lib.hid hXX
  have hPl : Hid (∀ W', RunKeep F G br w0 W' → ∀ k : Nat, Calls Try.prog 29 #[.pointer (some ⟨R, 0, none⟩), .int .i64 (st + k)] W' (Ret (.int .i64 (Rn.place ⟨fr, cn, st, nx, ep, L⟩ (st + k))) W')) :=
    Lib.hid (fun W' h k => (lPlace (hR.stay fun j hj => h.1 j (.inr (.inl hj))) (st + k) (by omega)).mono fun en w' ⟨h1, n, h2⟩ => ⟨h1, by rw [h2]; exact (Upd.refl Non W').then_drewN n⟩)
  have hAt : Hid (∀ W', RunKeep F G br w0 W' → ∀ k : Nat, Calls Try.prog 40 #[.pointer (some ⟨R, 0, none⟩), .int .i64 (Rn.place ⟨fr, cn, st, nx, ep, L⟩ (st + k))] W' (Ret (.tuple #[(Y k).1.v, .bool (Y k).2]) W')) :=
    Lib.hid (fun W' h k => by rw [← hYk.out k]; exact lAt (hR.stay fun j hj => h.1 j (.inr (.inl hj))) (hD.stay fun j hj => h.1 j (.inl hj)) hn _)
  have hCel : Hid (∀ W', RunKeep F G br w0 W' → W'.cell? ⟨br, 0, none⟩ = some (.pointer (some ⟨R, 0, none⟩)) ∧ W'.cell? ⟨R, 2, none⟩ = some (.int .i64 (cn : Int)) ∧ W'.cell? ⟨R, 3, none⟩ = some (.int .i64 st)) :=
    Lib.hid (fun W' h => by
      obtain ⟨_, _, -, -, x2, x3, -⟩ := (hR.stay (w' := W') fun j hj => h.1 j (.inr (.inl hj))).cell
      exact ⟨(cells_of ((h.1 br (.inr (.inr rfl))).trans hbr)).1 0, x2, x3⟩)
  have hK0 : RunKeep F G br w0 W := ⟨hSt, hZ⟩
  have hb0 : W.heap[b]? = some (.cells #[.int .i64 e] 3 (0, 0)) := hbW.trans hb
  obtain ⟨r0, r2, r3⟩ := hCel.out W hK0
  replace hlt := Lib.hid hlt
  replace hJu := Lib.hid hJu
  replace hY := Lib.hid hY
  replace hb0 := Lib.hid hb0
  replace hbK := Lib.hid hbK
  clear hR hD hbr hb hbW hYd
  refine callsIn_of_wp Try.func41 rfl trivial ?_ rfl
  simp only [Try.ntmps41, List.size_toArray, List.length_cons, List.length_nil, Nat.reduceAdd, Nat.reduceSub, Array.replicate_succ, Array.replicate_zero, List.push_toArray, List.append_toArray, List.nil_append, List.cons_append]
  gi_wp2
  gi_loopw [11] (fun iv wr => ∃ (k : Nat) (ek : Int), iv = .int .i64 (k : Int) ∧ k ≤ cn ∧ k ≤ X.length ∧ Hid (X.drop k = runS d ⟨fr, cn, st, nx, ep, L⟩ ek k (cn - k)) ∧ J k wr ∧ wr.heap[b]? = some (.cells #[.int .i64 ek] 3 (0, 0)) ∧ RunKeep F G br w0 wr) (fun iv _ => cn - (intOf iv).toNat)
  case atStart => exact ⟨0, e, rfl, by omega, by omega, Lib.hid hXX.out.symm, h0, hb0.out, hK0⟩
  case round =>
    clear hb0 hK0 r0 r2 r3
    obtain ⟨k, ek, rfl, hk, hkX, hdr, hJ, hbw, hKw⟩ := hrel
    obtain ⟨r0, r2, r3⟩ := hCel.out wr hKw
    by_cases hkn : k < cn
    · have hkn' : (k : Int) < (cn : Int) := by omega
      gi_wp2
      have hA1 := Lib.hid (fun W' h => hAt.out W' h k)
      have hs := runS_step d ⟨fr, cn, st, nx, ep, L⟩ ek k (cn - k) (by omega)
      rw [hYk.out k] at hs
      generalize Y k = p at *
      obtain ⟨⟨pe, pq, pf, pl, pd⟩, ok⟩ := p
      simp only at hA1 hs
      have hw := IntWalk.i64_in (st + (k : Int)) ⟨by omega, by omega⟩
      have hs' := Lib.hid hs
      clear hs
      refine wpIn_wide.2 ?_
      refine Code.wp_mono (Q := fun e f w' => match e with | .normal => (∃ (u : Nat → Value) (nb : Nat), f = F53 u (.func (.yield y) #[] #[]) (.pointer (some ⟨br, 0, none⟩)) (.pointer (some ⟨b, 0, none⟩)) (.int .i64 (k : Int)) (.pointer (some ⟨nb, 0, none⟩)) (.bool ok) (.pointer (some ⟨R, 0, none⟩)) (.pointer (some ⟨R, 0, none⟩)) (.pointer (some ⟨R, 2, none⟩)) (.int .i64 (cn : Int)) ∧
        w'.heap[nb]? = some (.cells #[.int .i64 pe, .int .i64 pq, .bool pf, .bool pl, .string ⟨pd.toArray⟩] 56 (0, 0)) ∧ wr.heap.size ≤ nb ∧ Upd Non wr w') | _ => False) ?_ ?_
      · intro ee f w2 hq
        cases ee <;> first | exact hq.elim | skip
        obtain ⟨u, nb, rfl, hnb, hge, hu2⟩ := hq
        have hK2 := hKw.upd hlt.out hu2 fun _ _ h => h
        have hb2 := hu2.heap hbw fun h => h
        have hne : nb ≠ b := by have := heap_lt hbw; omega
        have hKb := hbK.out
        clear r0 r2 r3 hA1
        obtain ⟨r0, r2, r3⟩ := hCel.out w2 hK2
        obtain ⟨y', z'⟩ := cells_of hnb
        have s0 : w2.cell? ⟨nb, 0, none⟩ = some (.int .i64 pe) := y' 0
        have s1 : w2.cell? ⟨nb, 1, none⟩ = some (.int .i64 pq) := y' 1
        have s2 : w2.cell? ⟨nb, 2, none⟩ = some (.bool pf) := y' 2
        have s3 : w2.cell? ⟨nb, 3, none⟩ = some (.bool pl) := y' 3
        have s4 : w2.cell? ⟨nb, 4, none⟩ = some (.string ⟨pd.toArray⟩) := y' 4
        have e0 : w2.cell? ⟨b, 0, none⟩ = some (.int .i64 ek) := (cells_of hb2).1 0
        have e9 : w2.frozen? ⟨b, 0, none⟩ = false := (cells_of hb2).2 0
        clear y' z'
        have hstop : Hid (¬ (ok = true ∧ pq = st + k ∧ ¬ pe < ek) → ∀ w', Upd Non w2 w' → J X.length w') := Lib.hid (fun hno w' hu' => by
          have h1 := hdr.out.trans hs'.out
          rw [if_neg hno] at h1
          have h2 := congrArg List.length h1
          rw [List.length_drop, List.length_nil] at h2
          rw [show X.length = k by omega]
          exact hJu.out k wr w' hJ (hu2.trans hu' fun _ _ h => h).non)
        unfold F53
        cases ok with
        | false =>
          gi_wp2
          refine wpIn_wide.2 ?_
          go_quiet (fail)
          gi_wp2
          refine bodyPost_ret (results_none rfl _ _ _) rfl ?_
          exact ⟨⟨_, rfl⟩, hstop.out (fun h => by simp at h) _ (by first | exact Upd.refl _ _ | exact Upd.drew _ _ | exact Upd.drewN _ _ _)⟩
        | true =>
          by_cases hq : pq = st + (k : Int)
          · by_cases hp : pe < ek
            · gi_wp2
              refine wpIn_wide.2 ?_
              go_quiet (fail)
              gi_wp2
              refine bodyPost_ret (results_none rfl _ _ _) rfl ?_
              exact ⟨⟨_, rfl⟩, hstop.out (fun h => by have := h.2.2; omega) _ (by first | exact Upd.refl _ _ | exact Upd.drew _ _ | exact Upd.drewN _ _ _)⟩
            · have hgo : Hid (k < X.length ∧ X.drop (k + 1) = runS d ⟨fr, cn, st, nx, ep, L⟩ pe (k + 1) (cn - (k + 1)) ∧ X[k]? = some ⟨pe, pq, pf, pl, pd⟩) := Lib.hid (by
                have h1 := hdr.out.trans hs'.out
                rw [if_pos ⟨rfl, hq, hp⟩] at h1
                have h2 := congrArg List.length h1
                rw [List.length_drop, List.length_cons] at h2
                have hkl : k < X.length := by omega
                rw [List.drop_eq_getElem_cons hkl] at h1
                obtain ⟨h3, h4⟩ := List.cons.inj h1
                exact ⟨hkl, h4, by rw [List.getElem?_eq_getElem hkl, h3]⟩)
              subst hq
              have hqb : (st + (k : Int) != st + (k : Int)) = false := by simp
              have hpI : ek ≤ pe := by omega
              obtain ⟨hkl, hnx, hxk⟩ := hgo.out
              rw [List.getElem?_eq_getElem hkl] at hxk
              injection hxk with hxk
              have hYk := fun W1 => hY.out k hkl W1
              rw [hxk] at hYk
              replace hYk := Lib.hid hYk
              replace hnx := Lib.hid hnx
              clear hxk hgo hstop
              gi_wp2
              refine wpIn_wide.2 ?_
              go_quiet (fail)
              obtain ⟨W4, hW4⟩ : ∃ W4, (w2.drewN nq).setCell ⟨b, 0, none⟩ (.int .i64 pe) = W4 := ⟨_, rfl⟩
              have hu4 : Upd (fun j => j = b) w2 W4 := by rw [← hW4]; exact (Upd.drewN (fun j => j = b) w2 nq).then_setCell (p := ⟨b, 0, none⟩) (fun _ => rfl) _
              have hb4 : W4.heap[b]? = some (.cells #[.int .i64 pe] 3 (0, 0)) := by rw [← hW4]; exact set_blk (j := 0) (v := .int .i64 pe) ((Upd.drewN Non w2 nq).heap hb2 fun h => h)
              have hJ4 : J k W4 := hJu.out k wr W4 hJ (hu2.non.trans hu4 fun _ _ h => h)
              have hK4 := hK2.upd hlt.out hu4 fun j hj e => hKb (e ▸ hj)
              obtain ⟨fn, tmps, assign, body, hy, hR⟩ := hYk.out W4 hJ4
              have q0 := hu4.cell s0 (by exact hne)
              have q1 := hu4.cell s1 (by exact hne)
              have q2 := hu4.cell s2 (by exact hne)
              have q3 := hu4.cell s3 (by exact hne)
              have q4 := hu4.cell s4 (by exact hne)
              clear hu4 hJ hJu hYk
              gi_wp2
              refine hR.mono ?_
              rintro ee W5 ⟨rfl, hJ5, hS5, hb5, hz5⟩
              have hK5 : RunKeep F G br w0 W5 := ⟨hK4.1.trans hS5, by have := hK4.2; omega⟩
              have hb5' := hb5.trans hb4
              clear hb5 hS5 hK4 hb4 hJ4 hR hy
              gi_wp2
              go_roundw
              case rel => exact ⟨k + 1, pe, by go_num, by omega, by omega, hnx, hJ5, hb5', hK5⟩
              case measure => simp [intOf]; omega
          · have hqb : (pq != st + (k : Int)) = true := by simp [hq]
            gi_wp2
            refine wpIn_wide.2 ?_
            go_quiet (fail)
            gi_wp2
            refine bodyPost_ret (results_none rfl _ _ _) rfl ?_
            exact ⟨⟨_, rfl⟩, hstop.out (fun h => hq h.2.1) _ (by first | exact Upd.refl _ _ | exact Upd.drew _ _ | exact Upd.drewN _ _ _)⟩
      · skip
        refine wp_region_held_drew (S := (fun w' => w'.cell? ⟨br, 0, none⟩ = some (.pointer (some ⟨R, 0, none⟩)) ∧ w'.cell? ⟨R, 3, none⟩ = some (.int .i64 st) ∧ Upd Non wr w')) (by kernel_rfl) (by exact ⟨(Upd.drew Non wr).cell r0 fun h => h, (Upd.drew Non wr).cell r3 fun h => h, Upd.drew Non wr⟩) (fun hHeld => ?_)
        (refine wpAnyH_take (i := 0) (oi := ?oi_n1) (v := ?v_n1) ?ho_n1 ?hs_n1 ?hf_n1 ?hr_n1 ?hQ_n1 ?hy_n1 ?hS_n1 ?rest_n1; (case hr_n1 => kernel_rfl); (case hf_n1 => kernel_rfl); (case hs_n1 => kernel_rfl); (case ho_n1 => (simp only [List.getElem?_toArray, List.getElem?_cons_succ, List.getElem?_cons_zero]; rfl)); (case hS_n1 => assumption); (case hQ_n1 => exact fun _ _ _ h => h); (case hy_n1 => (refine Or.inl ⟨by rfl, ?_⟩; (intro w hSw; obtain ⟨r0, r3, -⟩ := hSw; go_simp) <;> with_reducible rfl)); (try simp only [Act.put, List.setIfInBounds_toArray, List.set_cons_zero, List.set_cons_succ]))
        (refine wpAnyH_take (i := 1) (oi := ?oi_n2) (v := ?v_n2) ?ho_n2 ?hs_n2 ?hf_n2 ?hr_n2 ?hQ_n2 ?hy_n2 ?hS_n2 ?rest_n2; (case hr_n2 => kernel_rfl); (case hf_n2 => kernel_rfl); (case hs_n2 => kernel_rfl); (case ho_n2 => (simp only [List.getElem?_toArray, List.getElem?_cons_succ, List.getElem?_cons_zero]; rfl)); (case hS_n2 => assumption); (case hQ_n2 => exact fun _ _ _ h => h); (case hy_n2 => (refine Or.inl ⟨by rfl, ?_⟩; (intro w hSw; obtain ⟨r0, r3, -⟩ := hSw; go_simp) <;> with_reducible rfl)); (try simp only [Act.put, List.setIfInBounds_toArray, List.set_cons_zero, List.set_cons_succ]))
        (refine wpAnyH_take (i := 2) (oi := ?oi_n3) (v := ?v_n3) ?ho_n3 ?hs_n3 ?hf_n3 ?hr_n3 ?hQ_n3 ?hy_n3 ?hS_n3 ?rest_n3; (case hr_n3 => kernel_rfl); (case hf_n3 => kernel_rfl); (case hs_n3 => kernel_rfl); (case ho_n3 => (simp only [List.getElem?_toArray, List.getElem?_cons_succ, List.getElem?_cons_zero]; rfl)); (case hS_n3 => assumption); (case hQ_n3 => exact fun _ _ _ h => h); (case hy_n3 => (refine Or.inl ⟨by rfl, ?_⟩; (intro w hSw; obtain ⟨r0, r3, -⟩ := hSw; go_simp) <;> with_reducible rfl)); (try simp only [Act.put, List.setIfInBounds_toArray, List.set_cons_zero, List.set_cons_succ]))
        (refine wpAnyH_take (i := 3) (oi := ?oi_n4) (v := ?v_n4) ?ho_n4 ?hs_n4 ?hf_n4 ?hr_n4 ?hQ_n4 ?hy_n4 ?hS_n4 ?rest_n4; (case hr_n4 => kernel_rfl); (case hf_n4 => kernel_rfl); (case hs_n4 => kernel_rfl); (case ho_n4 => (simp only [List.getElem?_toArray, List.getElem?_cons_succ, List.getElem?_cons_zero]; rfl)); (case hS_n4 => assumption); (case hQ_n4 => exact fun _ _ _ h => h); (case hy_n4 => (refine Or.inl ⟨by rfl, ?_⟩; (intro w hSw; obtain ⟨r0, r3, -⟩ := hSw; go_simp) <;> with_reducible rfl)); (try simp only [Act.put, List.setIfInBounds_toArray, List.set_cons_zero, List.set_cons_succ]))
        (refine wpAnyH_take (i := 4) (oi := ?oi_n5) (v := ?v_n5) ?ho_n5 ?hs_n5 ?hf_n5 ?hr_n5 ?hQ_n5 ?hy_n5 ?hS_n5 ?rest_n5; (case hr_n5 => kernel_rfl); (case hf_n5 => kernel_rfl); (case hs_n5 => kernel_rfl); (case ho_n5 => (simp only [List.getElem?_toArray, List.getElem?_cons_succ, List.getElem?_cons_zero]; rfl)); (case hS_n5 => assumption); (case hQ_n5 => exact fun _ _ _ h => h); (case hy_n5 => (refine Or.inl ⟨by rfl, ?_⟩; (intro w hSw; obtain ⟨r0, r3, -⟩ := hSw; go_simp) <;> with_reducible rfl)); (try simp only [Act.put, List.setIfInBounds_toArray, List.set_cons_zero, List.set_cons_succ]))
        (refine wpAnyH_take (i := 5) (oi := ?oi_n6) (v := ?v_n6) ?ho_n6 ?hs_n6 ?hf_n6 ?hr_n6 ?hQ_n6 ?hy_n6 ?hS_n6 ?rest_n6; (case hr_n6 => kernel_rfl); (case hf_n6 => kernel_rfl); (case hs_n6 => kernel_rfl); (case ho_n6 => (simp only [List.getElem?_toArray, List.getElem?_cons_succ, List.getElem?_cons_zero]; rfl)); (case hS_n6 => assumption); (case hQ_n6 => exact fun _ _ _ h => h); (case hy_n6 => (refine Or.inl ⟨by rfl, ?_⟩; (intro w hSw; obtain ⟨r0, r3, -⟩ := hSw; go_simp) <;> with_reducible rfl)); (try simp only [Act.put, List.setIfInBounds_toArray, List.set_cons_zero, List.set_cons_succ]))
        (refine wpAnyH_take (i := 6) (oi := ?oi_n7) (v := ?v_n7) ?ho_n7 ?hs_n7 ?hf_n7 ?hr_n7 ?hQ_n7 ?hy_n7 ?hS_n7 ?rest_n7; (case hr_n7 => kernel_rfl); (case hf_n7 => kernel_rfl); (case hs_n7 => kernel_rfl); (case ho_n7 => (simp only [List.getElem?_toArray, List.getElem?_cons_succ, List.getElem?_cons_zero]; rfl)); (case hS_n7 => assumption); (case hQ_n7 => exact fun _ _ _ h => h); (case hy_n7 => (refine Or.inl ⟨by rfl, ?_⟩; (intro w hSw; obtain ⟨r0, r3, -⟩ := hSw; go_simp) <;> with_reducible rfl)); (try simp only [Act.put, List.setIfInBounds_toArray, List.set_cons_zero, List.set_cons_succ]))
        (refine wpAnyH_take (i := 7) (oi := ?oi_n8) (v := ?v_n8) ?ho_n8 ?hs_n8 ?hf_n8 ?hr_n8 ?hQ_n8 ?hy_n8 ?hS_n8 ?rest_n8; (case hr_n8 => kernel_rfl); (case hf_n8 => kernel_rfl); (case hs_n8 => kernel_rfl); (case ho_n8 => (simp only [List.getElem?_toArray, List.getElem?_cons_succ, List.getElem?_cons_zero]; rfl)); (case hS_n8 => assumption); (case hQ_n8 => exact fun _ _ _ h => h); (case hy_n8 => (refine Or.inl ⟨by rfl, ?_⟩; (intro w hSw; obtain ⟨r0, r3, -⟩ := hSw; go_simp) <;> with_reducible rfl)); (try simp only [Act.put, List.setIfInBounds_toArray, List.set_cons_zero, List.set_cons_succ]))
        refine wpAnyH_ready (rs := [8, 13]) (by kernel_rfl) (by simp) ?_
        refine (AllReadyH.cons (o := ?oon9_0) ?hon9_0 ?hsn9_0 (AllReadyH.cons (o := ?oon9_1) ?hon9_1 ?hsn9_1 AllReadyH.nil))
        case hon9_0 => (simp only [List.getElem?_toArray, List.getElem?_cons_succ, List.getElem?_cons_zero]; rfl)
        case hon9_1 => (simp only [List.getElem?_toArray, List.getElem?_cons_succ, List.getElem?_cons_zero]; rfl)
        case hsn9_0 =>
          intro K hK
          go_simp
          refine ((hPl.out _ (hKw.upd hlt.out (Upd.drew Non wr) fun _ _ h => h) k).mono ?_)
          rintro en w1 ⟨rfl, hu1⟩
          have hU1 := (Upd.drew Non wr).trans hu1 fun _ _ h => h
          try go_wp2_with fail
          refine hK.out _ _ (by exact ⟨hU1.cell r0 fun h => h, hU1.cell r3 fun h => h, hU1⟩) (fun hHeld => ?_)
          clear hK K
          try simp only [Act.put, List.setIfInBounds_toArray, List.set_cons_zero, List.set_cons_succ]
          refine wpAnyH_ready (rs := [9, 13]) (by kernel_rfl) (by simp) ?_
          refine (AllReadyH.cons (o := ?oon10_0) ?hon10_0 ?hsn10_0 (AllReadyH.cons (o := ?oon10_1) ?hon10_1 ?hsn10_1 AllReadyH.nil))
          case hon10_0 => (simp only [List.getElem?_toArray, List.getElem?_cons_succ, List.getElem?_cons_zero]; rfl)
          case hon10_1 => (simp only [List.getElem?_toArray, List.getElem?_cons_succ, List.getElem?_cons_zero]; rfl)
          case hsn10_0 =>
            intro K hK
            go_simp
            refine ((hA1.out _ (hKw.upd hlt.out hU1 fun _ _ h => h)).mono ?_)
            rintro en w2 ⟨rfl, hu2⟩
            have hU2 := hU1.trans hu2 fun _ _ h => h
            try go_wp2_with fail
            refine hK.out _ _ (by exact ⟨hU2.cell r0 fun h => h, hU2.cell r3 fun h => h, hU2⟩) (fun hHeld => ?_)
            clear hK K
            try simp only [Act.put, List.setIfInBounds_toArray, List.set_cons_zero, List.set_cons_succ]
            (refine wpAnyH_take (i := 10) (oi := ?oi_n11) (v := ?v_n11) ?ho_n11 ?hs_n11 ?hf_n11 ?hr_n11 ?hQ_n11 ?hy_n11 ?hS_n11 ?rest_n11; (case hr_n11 => kernel_rfl); (case hf_n11 => kernel_rfl); (case hs_n11 => kernel_rfl); (case ho_n11 => (simp only [List.getElem?_toArray, List.getElem?_cons_succ, List.getElem?_cons_zero]; rfl)); (case hS_n11 => assumption); (case hQ_n11 => exact fun _ _ _ h => h); (case hy_n11 => (refine Or.inl ⟨by rfl, ?_⟩; (intro w hSw; (try dsimp only at hSw); go_simp) <;> with_reducible rfl)); (try simp only [Act.put, List.setIfInBounds_toArray, List.set_cons_zero, List.set_cons_succ]))
            (refine wpAnyH_take (i := 11) (oi := ?oi_n12) (v := ?v_n12) ?ho_n12 ?hs_n12 ?hf_n12 ?hr_n12 ?hQ_n12 ?hy_n12 ?hS_n12 ?rest_n12; (case hr_n12 => kernel_rfl); (case hf_n12 => kernel_rfl); (case hs_n12 => kernel_rfl); (case ho_n12 => (simp only [List.getElem?_toArray, List.getElem?_cons_succ, List.getElem?_cons_zero]; rfl)); (case hS_n12 => assumption); (case hQ_n12 => exact fun _ _ _ h => h); (case hy_n12 => (refine Or.inl ⟨by rfl, ?_⟩; (intro w hSw; (try dsimp only at hSw); go_simp) <;> with_reducible rfl)); (try simp only [Act.put, List.setIfInBounds_toArray, List.set_cons_zero, List.set_cons_succ]))
            (refine wpAnyH_take (i := 12) (oi := ?oi_n13) (v := ?v_n13) ?ho_n13 ?hs_n13 ?hf_n13 ?hr_n13 ?hQ_n13 ?hy_n13 ?hS_n13 ?rest_n13; (case hr_n13 => kernel_rfl); (case hf_n13 => kernel_rfl); (case hs_n13 => kernel_rfl); (case ho_n13 => (simp only [List.getElem?_toArray, List.getElem?_cons_succ, List.getElem?_cons_zero]; rfl)); (case hS_n13 => assumption); (case hQ_n13 => exact fun _ _ _ h => h); (case hy_n13 => (refine Or.inl ⟨by rfl, ?_⟩; (intro w hSw; (try dsimp only at hSw); go_simp) <;> with_reducible rfl)); (try simp only [Act.put, List.setIfInBounds_toArray, List.set_cons_zero, List.set_cons_succ]))
            refine wpAnyH_ready (rs := [13]) (by kernel_rfl) (by simp) ?_
            refine (AllReadyH.cons (o := ?oon14_0) ?hon14_0 ?hsn14_0 AllReadyH.nil)
            case hon14_0 => (simp only [List.getElem?_toArray, List.getElem?_cons_succ, List.getElem?_cons_zero]; rfl)
            case hsn14_0 =>
              intro K hK
              go_simp
              have hU3 := hU2.then_alloc (.cells #[.int .i64 0, .int .i64 0, .bool false, .bool false, .string ⟨#[]⟩] 56)
              have hnb := heap_alloc_new (w2) (.cells #[.int .i64 0, .int .i64 0, .bool false, .bool false, .string ⟨#[]⟩] 56)
              have hge : wr.heap.size ≤ (w2).heap.size := hU2.size
              refine hK.out _ _ (by exact ⟨hU3.cell r0 fun h => h, hU3.cell r3 fun h => h, hU3⟩) (fun hHeld => ?_)
              clear hK K
              try simp only [Act.put, List.setIfInBounds_toArray, List.set_cons_zero, List.set_cons_succ]
              refine wpAnyH_ready (rs := [14]) (by kernel_rfl) (by simp) ?_
              refine (AllReadyH.cons (o := ?oon15_0) ?hon15_0 ?hsn15_0 AllReadyH.nil)
              case hon15_0 => (simp only [List.getElem?_toArray, List.getElem?_cons_succ, List.getElem?_cons_zero]; rfl)
              case hsn15_0 =>
                intro K hK
                refine storeB_step rfl 56 _ _ rfl ((w2).heap.size) #[.int .i64 pe, .int .i64 pq, .bool pf, .bool pl, .string ⟨pd.toArray⟩] _ _ rfl rfl hnb rfl size_slot.out (by simp [Value.oneCell']) ?_
                intro w4 hnb hu4
                have hU4 := hU3.trans hu4 fun j hj (e : j = _) => by omega
                refine hK.out _ _ (by exact ⟨hU4.cell r0 fun h => h, hU4.cell r3 fun h => h, hU4⟩) (fun hHeld => ?_)
                clear hK K
                try simp only [Act.put, List.setIfInBounds_toArray, List.set_cons_zero, List.set_cons_succ]
                (refine wpAnyH_take (i := 15) (oi := ?oi_n16) (v := ?v_n16) ?ho_n16 ?hs_n16 ?hf_n16 ?hr_n16 ?hQ_n16 ?hy_n16 ?hS_n16 ?rest_n16; (case hr_n16 => kernel_rfl); (case hf_n16 => kernel_rfl); (case hs_n16 => kernel_rfl); (case ho_n16 => (simp only [List.getElem?_toArray, List.getElem?_cons_succ, List.getElem?_cons_zero]; rfl)); (case hS_n16 => assumption); (case hQ_n16 => exact fun _ _ _ h => h); (case hy_n16 => (refine Or.inl ⟨by rfl, ?_⟩; (intro w hSw; (try dsimp only at hSw); go_simp) <;> with_reducible rfl)); (try simp only [Act.put, List.setIfInBounds_toArray, List.set_cons_zero, List.set_cons_succ]))
                refine wpAnyH_done (by kernel_rfl) ?_ _
                refine ⟨_, (w2).heap.size, F53_of _ _ _ _ _ _ _ _ _ _ _ _ _ _ _ _ _ _ _ _ _ _ _ _ _ _ _ _ _ _ _ _ _ _ _ _ _ _ _ _ _ _ _ _ _ _ _ _ _ _ _, hnb, hge, hU4⟩
          case hsn10_1 =>
            intro K hK
            go_simp
            have hU5 := hU1.then_alloc (.cells #[.int .i64 0, .int .i64 0, .bool false, .bool false, .string ⟨#[]⟩] 56)
            have hnb := heap_alloc_new (w1) (.cells #[.int .i64 0, .int .i64 0, .bool false, .bool false, .string ⟨#[]⟩] 56)
            have hge : wr.heap.size ≤ (w1).heap.size := hU1.size
            refine hK.out _ _ (by exact ⟨hU5.cell r0 fun h => h, hU5.cell r3 fun h => h, hU5⟩) (fun hHeld => ?_)
            clear hK K
            try simp only [Act.put, List.setIfInBounds_toArray, List.set_cons_zero, List.set_cons_succ]
            refine wpAnyH_ready (rs := [9]) (by kernel_rfl) (by simp) ?_
            refine (AllReadyH.cons (o := ?oon17_0) ?hon17_0 ?hsn17_0 AllReadyH.nil)
            case hon17_0 => (simp only [List.getElem?_toArray, List.getElem?_cons_succ, List.getElem?_cons_zero]; rfl)
            case hsn17_0 =>
              intro K hK
              go_simp
              refine ((hA1.out _ (hKw.upd hlt.out hU5 fun _ _ h => h)).mono ?_)
              rintro en w6 ⟨rfl, hu6⟩
              have hU6 := hU5.trans hu6 fun _ _ h => h
              have hnb := hu6.heap hnb fun h => h
              try go_wp2_with fail
              refine hK.out _ _ (by exact ⟨hU6.cell r0 fun h => h, hU6.cell r3 fun h => h, hU6⟩) (fun hHeld => ?_)
              clear hK K
              try simp only [Act.put, List.setIfInBounds_toArray, List.set_cons_zero, List.set_cons_succ]
              (refine wpAnyH_take (i := 10) (oi := ?oi_n18) (v := ?v_n18) ?ho_n18 ?hs_n18 ?hf_n18 ?hr_n18 ?hQ_n18 ?hy_n18 ?hS_n18 ?rest_n18; (case hr_n18 => kernel_rfl); (case hf_n18 => kernel_rfl); (case hs_n18 => kernel_rfl); (case ho_n18 => (simp only [List.getElem?_toArray, List.getElem?_cons_succ, List.getElem?_cons_zero]; rfl)); (case hS_n18 => assumption); (case hQ_n18 => exact fun _ _ _ h => h); (case hy_n18 => (refine Or.inl ⟨by rfl, ?_⟩; (intro w hSw; (try dsimp only at hSw); go_simp) <;> with_reducible rfl)); (try simp only [Act.put, List.setIfInBounds_toArray, List.set_cons_zero, List.set_cons_succ]))
              (refine wpAnyH_take (i := 11) (oi := ?oi_n19) (v := ?v_n19) ?ho_n19 ?hs_n19 ?hf_n19 ?hr_n19 ?hQ_n19 ?hy_n19 ?hS_n19 ?rest_n19; (case hr_n19 => kernel_rfl); (case hf_n19 => kernel_rfl); (case hs_n19 => kernel_rfl); (case ho_n19 => (simp only [List.getElem?_toArray, List.getElem?_cons_succ, List.getElem?_cons_zero]; rfl)); (case hS_n19 => assumption); (case hQ_n19 => exact fun _ _ _ h => h); (case hy_n19 => (refine Or.inl ⟨by rfl, ?_⟩; (intro w hSw; (try dsimp only at hSw); go_simp) <;> with_reducible rfl)); (try simp only [Act.put, List.setIfInBounds_toArray, List.set_cons_zero, List.set_cons_succ]))
              (refine wpAnyH_take (i := 12) (oi := ?oi_n20) (v := ?v_n20) ?ho_n20 ?hs_n20 ?hf_n20 ?hr_n20 ?hQ_n20 ?hy_n20 ?hS_n20 ?rest_n20; (case hr_n20 => kernel_rfl); (case hf_n20 => kernel_rfl); (case hs_n20 => kernel_rfl); (case ho_n20 => (simp only [List.getElem?_toArray, List.getElem?_cons_succ, List.getElem?_cons_zero]; rfl)); (case hS_n20 => assumption); (case hQ_n20 => exact fun _ _ _ h => h); (case hy_n20 => (refine Or.inl ⟨by rfl, ?_⟩; (intro w hSw; (try dsimp only at hSw); go_simp) <;> with_reducible rfl)); (try simp only [Act.put, List.setIfInBounds_toArray, List.set_cons_zero, List.set_cons_succ]))
              refine wpAnyH_ready (rs := [14]) (by kernel_rfl) (by simp) ?_
              refine (AllReadyH.cons (o := ?oon21_0) ?hon21_0 ?hsn21_0 AllReadyH.nil)
              case hon21_0 => (simp only [List.getElem?_toArray, List.getElem?_cons_succ, List.getElem?_cons_zero]; rfl)
              case hsn21_0 =>
                intro K hK
                refine storeB_step rfl 56 _ _ rfl ((w1).heap.size) #[.int .i64 pe, .int .i64 pq, .bool pf, .bool pl, .string ⟨pd.toArray⟩] _ _ rfl rfl hnb rfl size_slot.out (by simp [Value.oneCell']) ?_
                intro w7 hnb hu7
                have hU7 := hU6.trans hu7 fun j hj (e : j = _) => by omega
                refine hK.out _ _ (by exact ⟨hU7.cell r0 fun h => h, hU7.cell r3 fun h => h, hU7⟩) (fun hHeld => ?_)
                clear hK K
                try simp only [Act.put, List.setIfInBounds_toArray, List.set_cons_zero, List.set_cons_succ]
                (refine wpAnyH_take (i := 15) (oi := ?oi_n22) (v := ?v_n22) ?ho_n22 ?hs_n22 ?hf_n22 ?hr_n22 ?hQ_n22 ?hy_n22 ?hS_n22 ?rest_n22; (case hr_n22 => kernel_rfl); (case hf_n22 => kernel_rfl); (case hs_n22 => kernel_rfl); (case ho_n22 => (simp only [List.getElem?_toArray, List.getElem?_cons_succ, List.getElem?_cons_zero]; rfl)); (case hS_n22 => assumption); (case hQ_n22 => exact fun _ _ _ h => h); (case hy_n22 => (refine Or.inl ⟨by rfl, ?_⟩; (intro w hSw; (try dsimp only at hSw); go_simp) <;> with_reducible rfl)); (try simp only [Act.put, List.setIfInBounds_toArray, List.set_cons_zero, List.set_cons_succ]))
                refine wpAnyH_done (by kernel_rfl) ?_ _
                refine ⟨_, (w1).heap.size, F53_of _ _ _ _ _ _ _ _ _ _ _ _ _ _ _ _ _ _ _ _ _ _ _ _ _ _ _ _ _ _ _ _ _ _ _ _ _ _ _ _ _ _ _ _ _ _ _ _ _ _ _, hnb, hge, hU7⟩
        case hsn9_1 =>
          intro K hK
          go_simp
          have hU8 := (Upd.drew Non wr).then_alloc (.cells #[.int .i64 0, .int .i64 0, .bool false, .bool false, .string ⟨#[]⟩] 56)
          have hnb := heap_alloc_new (wr.drew) (.cells #[.int .i64 0, .int .i64 0, .bool false, .bool false, .string ⟨#[]⟩] 56)
          have hge : wr.heap.size ≤ (wr.drew).heap.size := (Upd.drew Non wr).size
          refine hK.out _ _ (by exact ⟨hU8.cell r0 fun h => h, hU8.cell r3 fun h => h, hU8⟩) (fun hHeld => ?_)
          clear hK K
          try simp only [Act.put, List.setIfInBounds_toArray, List.set_cons_zero, List.set_cons_succ]
          refine wpAnyH_ready (rs := [8]) (by kernel_rfl) (by simp) ?_
          refine (AllReadyH.cons (o := ?oon23_0) ?hon23_0 ?hsn23_0 AllReadyH.nil)
          case hon23_0 => (simp only [List.getElem?_toArray, List.getElem?_cons_succ, List.getElem?_cons_zero]; rfl)
          case hsn23_0 =>
            intro K hK
            go_simp
            refine ((hPl.out _ (hKw.upd hlt.out hU8 fun _ _ h => h) k).mono ?_)
            rintro en w9 ⟨rfl, hu9⟩
            have hU9 := hU8.trans hu9 fun _ _ h => h
            have hnb := hu9.heap hnb fun h => h
            try go_wp2_with fail
            refine hK.out _ _ (by exact ⟨hU9.cell r0 fun h => h, hU9.cell r3 fun h => h, hU9⟩) (fun hHeld => ?_)
            clear hK K
            try simp only [Act.put, List.setIfInBounds_toArray, List.set_cons_zero, List.set_cons_succ]
            refine wpAnyH_ready (rs := [9]) (by kernel_rfl) (by simp) ?_
            refine (AllReadyH.cons (o := ?oon24_0) ?hon24_0 ?hsn24_0 AllReadyH.nil)
            case hon24_0 => (simp only [List.getElem?_toArray, List.getElem?_cons_succ, List.getElem?_cons_zero]; rfl)
            case hsn24_0 =>
              intro K hK
              go_simp
              refine ((hA1.out _ (hKw.upd hlt.out hU9 fun _ _ h => h)).mono ?_)
              rintro en w10 ⟨rfl, hu10⟩
              have hU10 := hU9.trans hu10 fun _ _ h => h
              have hnb := hu10.heap hnb fun h => h
              try go_wp2_with fail
              refine hK.out _ _ (by exact ⟨hU10.cell r0 fun h => h, hU10.cell r3 fun h => h, hU10⟩) (fun hHeld => ?_)
              clear hK K
              try simp only [Act.put, List.setIfInBounds_toArray, List.set_cons_zero, List.set_cons_succ]
              (refine wpAnyH_take (i := 10) (oi := ?oi_n25) (v := ?v_n25) ?ho_n25 ?hs_n25 ?hf_n25 ?hr_n25 ?hQ_n25 ?hy_n25 ?hS_n25 ?rest_n25; (case hr_n25 => kernel_rfl); (case hf_n25 => kernel_rfl); (case hs_n25 => kernel_rfl); (case ho_n25 => (simp only [List.getElem?_toArray, List.getElem?_cons_succ, List.getElem?_cons_zero]; rfl)); (case hS_n25 => assumption); (case hQ_n25 => exact fun _ _ _ h => h); (case hy_n25 => (refine Or.inl ⟨by rfl, ?_⟩; (intro w hSw; (try dsimp only at hSw); go_simp) <;> with_reducible rfl)); (try simp only [Act.put, List.setIfInBounds_toArray, List.set_cons_zero, List.set_cons_succ]))
              (refine wpAnyH_take (i := 11) (oi := ?oi_n26) (v := ?v_n26) ?ho_n26 ?hs_n26 ?hf_n26 ?hr_n26 ?hQ_n26 ?hy_n26 ?hS_n26 ?rest_n26; (case hr_n26 => kernel_rfl); (case hf_n26 => kernel_rfl); (case hs_n26 => kernel_rfl); (case ho_n26 => (simp only [List.getElem?_toArray, List.getElem?_cons_succ, List.getElem?_cons_zero]; rfl)); (case hS_n26 => assumption); (case hQ_n26 => exact fun _ _ _ h => h); (case hy_n26 => (refine Or.inl ⟨by rfl, ?_⟩; (intro w hSw; (try dsimp only at hSw); go_simp) <;> with_reducible rfl)); (try simp only [Act.put, List.setIfInBounds_toArray, List.set_cons_zero, List.set_cons_succ]))
              (refine wpAnyH_take (i := 12) (oi := ?oi_n27) (v := ?v_n27) ?ho_n27 ?hs_n27 ?hf_n27 ?hr_n27 ?hQ_n27 ?hy_n27 ?hS_n27 ?rest_n27; (case hr_n27 => kernel_rfl); (case hf_n27 => kernel_rfl); (case hs_n27 => kernel_rfl); (case ho_n27 => (simp only [List.getElem?_toArray, List.getElem?_cons_succ, List.getElem?_cons_zero]; rfl)); (case hS_n27 => assumption); (case hQ_n27 => exact fun _ _ _ h => h); (case hy_n27 => (refine Or.inl ⟨by rfl, ?_⟩; (intro w hSw; (try dsimp only at hSw); go_simp) <;> with_reducible rfl)); (try simp only [Act.put, List.setIfInBounds_toArray, List.set_cons_zero, List.set_cons_succ]))
              refine wpAnyH_ready (rs := [14]) (by kernel_rfl) (by simp) ?_
              refine (AllReadyH.cons (o := ?oon28_0) ?hon28_0 ?hsn28_0 AllReadyH.nil)
              case hon28_0 => (simp only [List.getElem?_toArray, List.getElem?_cons_succ, List.getElem?_cons_zero]; rfl)
              case hsn28_0 =>
                intro K hK
                refine storeB_step rfl 56 _ _ rfl ((wr.drew).heap.size) #[.int .i64 pe, .int .i64 pq, .bool pf, .bool pl, .string ⟨pd.toArray⟩] _ _ rfl rfl hnb rfl size_slot.out (by simp [Value.oneCell']) ?_
                intro w11 hnb hu11
                have hU11 := hU10.trans hu11 fun j hj (e : j = _) => by omega
                refine hK.out _ _ (by exact ⟨hU11.cell r0 fun h => h, hU11.cell r3 fun h => h, hU11⟩) (fun hHeld => ?_)
                clear hK K
                try simp only [Act.put, List.setIfInBounds_toArray, List.set_cons_zero, List.set_cons_succ]
                (refine wpAnyH_take (i := 15) (oi := ?oi_n29) (v := ?v_n29) ?ho_n29 ?hs_n29 ?hf_n29 ?hr_n29 ?hQ_n29 ?hy_n29 ?hS_n29 ?rest_n29; (case hr_n29 => kernel_rfl); (case hf_n29 => kernel_rfl); (case hs_n29 => kernel_rfl); (case ho_n29 => (simp only [List.getElem?_toArray, List.getElem?_cons_succ, List.getElem?_cons_zero]; rfl)); (case hS_n29 => assumption); (case hQ_n29 => exact fun _ _ _ h => h); (case hy_n29 => (refine Or.inl ⟨by rfl, ?_⟩; (intro w hSw; (try dsimp only at hSw); go_simp) <;> with_reducible rfl)); (try simp only [Act.put, List.setIfInBounds_toArray, List.set_cons_zero, List.set_cons_succ]))
                refine wpAnyH_done (by kernel_rfl) ?_ _
                refine ⟨_, (wr.drew).heap.size, F53_of _ _ _ _ _ _ _ _ _ _ _ _ _ _ _ _ _ _ _ _ _ _ _ _ _ _ _ _ _ _ _ _ _ _ _ _ _ _ _ _ _ _ _ _ _ _ _ _ _ _ _, hnb, hge, hU11⟩
    · obtain rfl : k = cn := by omega
      have hkn' : ¬ (k : Int) < (k : Int) := by omega
      have hend : X.length = k := by
        have h2 := congrArg List.length hdr.out
        rw [Nat.sub_self, runS, List.length_drop, List.length_nil] at h2
        omega
      rw [← hend] at hJ
      replace hend := Lib.hid hend
      gi_wp2
      refine bodyPost_end (results_none rfl _ _ _) rfl ?_
      exact ⟨⟨_, rfl⟩, hJ⟩
end Go.Proofs.Ytmnoldikimcafaa
