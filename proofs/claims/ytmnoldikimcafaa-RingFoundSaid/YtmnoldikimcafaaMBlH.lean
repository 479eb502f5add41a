/- Disk.Write. -/
import Derived.Test.YtmnoldikimcafaaMBlF
import Derived.Test.YtmnoldikimcafaaMLib
namespace Go.Proofs.Ytmnoldikimcafaa
open Go.RowKit Go.Amb Go.Shelf
set_option linter.unusedVariables false
set_option linter.unusedSimpArgs false
set_option maxRecDepth 100000
/-- 'copy(x, y)' in a plain region. -/
theorem wpList_copy {P : Program} {w w' : World} {ops : Array Oper} {rest : List Oper} {o : Oper} {a : Act} {Q : Exit → Act → World → Prop} (hgd : o.guard = none) (x y : Operand) (tx ty : TypeId)
    (ho : o.op = .call { callee := .builtin .copy, args := #[x, y], argTypes := #[tx, ty] }) (dv sv rv : Value) (hx : a.eval x = dv) (hy : a.eval y = sv)
    (hr : (Builtin.copy_ #[tx, ty] o.type #[dv, sv]).run P w = .ok rv w') (h : wpList P ops Q rest (a.put o.dst rv) w') : wpList P ops Q (o :: rest) a w := by
  refine wpList_plain hgd fun K hK => ?_
  unfold Oper.wp execOp
  simp only [ho, resolve, invoke, builtin, Sem.run_bind, Sem.run_pure, Result.andThen_ok, List.map_toArray, List.map_cons, List.map_nil, hx, hy, hr]
  exact hK _ _ h
theorem run_copy_bytes (w : World) (ty : TypeId) (b o dLen dCap : Nat) (v : Value) (s : List UInt8) (hB : Bytes w v s) (hs : s.length ≤ dLen) (ht : w.there b o dLen) :
    (Builtin.copy_ #[50, 50] ty #[.slice (some ⟨b, o, none⟩) dLen dCap, v]).run Try.prog w = .ok (goInt s.length) (w.setCells b o (bc s)) := by
  have h1 : (Try.prog.info? 5).map (·.size) = some 1 := by kernel_rfl
  obtain ⟨_, a, c, rfl, -, -, h3⟩ := hB
  rcases h3 with h3 | ⟨g, off, rfl, hc⟩
  · obtain rfl : s = [] := List.eq_nil_of_length_eq_zero h3
    exact run_copy_none (P := Try.prog) w 50 50 ty 5 _ _ _ _ _ _ Try.underlying50 h1 (by simp)
  · have := run_copy_cells (P := Try.prog) w 50 50 ty 5 b o dLen dCap ⟨g, off, none⟩ s.length c (bc s) Try.underlying50 h1 (by rw [bc_length]; exact (Nat.min_eq_left hs).symm)
      (fun j u hu => by rw [Addr.add_lit]; exact hc j u hu) (fun j hj => (ht j (by rw [bc_length] at hj; omega)).1) (fun j hj => (ht j (by rw [bc_length] at hj; omega)).2) (bc_one s)
    rw [bc_length] at this
    exact this
theorem info_write3 : (Try.prog.info? 77).map (fun i => (i.zero, i.size, i.bytes)) = some (some (.agg ((Array.replicate 128 (.int .u8 0)).push (.int .i64 0))), 129, 136) := by kernel_rfl
theorem at_of {g n c k : Nat} (h : At (.slice (some ⟨g, 0, none⟩) n c) k) : k = g := by simpa [At, Value.ownBlock, eq_comm] using h
theorem bc_zero (n : Nat) : bc (List.replicate n 0) = List.replicate n (.int .u8 0) := by unfold bc; rw [List.map_replicate]; rfl
theorem write_row (s : List UInt8) (i : Nat) (hs : s.length ≤ 128) : bc s ++ (pc (List.replicate 128 0, i)).drop s.length = pc (full s, i) := by
  have : List.replicate 128 (Value.int .u8 0) = List.replicate s.length (.int .u8 0) ++ List.replicate (128 - s.length) (.int .u8 0) := by
    rw [List.replicate_append_replicate]; congr 1; omega
  unfold pc full
  rw [bc_append, bc_zero, bc_zero, List.append_assoc, this, List.append_assoc, List.drop_append_of_le_length (by simp), List.drop_of_length_le (by simp), List.nil_append]
theorem bytes_form {w : World} {v : Value} {s : List UInt8} (h : Bytes w v s) : ∃ a c, v = .slice a s.length c := by
  obtain ⟨_, a, c, rfl, -⟩ := h; exact ⟨a, c, rfl⟩
/-- Reads that are refused. -/
theorem lReadNo {w : World} {D : Nat} {F : Nat → Prop} {d : Dk} (h : DiskAt w D F d) (i : Int) (hd : d.within i ≠ 0) :
    Calls Try.prog 56 #[.pointer (some ⟨D, 0, none⟩), .int .i64 i] w (Ret (.tuple #[.slice none 0 0, .int .i64 (d.within i)]) w) := by
  have cW := fun w' (hu : Upd Non w w') => lWithin (h.non hu) i
  obtain ⟨e, he⟩ : ∃ e, d.within i = e := ⟨_, rfl⟩
  rw [he] at hd cW ⊢
  have hd' : (e != 0) = true := by simpa using hd
  have hd2 : (e = 0) = False := eq_false hd
  replace cW := Lib.hid cW
  clear h hd he
  go_enter Try.func56, Try.ntmps56
  go_wp2_with fail
  refine (cW.out _ (Upd.alloc Non w _)).mono ?_
  rintro en w1 ⟨rfl, hu1⟩
  have hU := (Upd.alloc Non w (.cells #[.int .i64 i] 3)).trans hu1 fun _ _ h => h
  simp only []
  go_wp2_with fail
  go_ret2
  exact ⟨by simp, hU⟩
set_option maxHeartbeats 2000000 in
theorem lWriteOk {w : World} {D : Nat} {F : Nat → Prop} {d : Dk} (h : DiskAt w D F d) (hn : d.P.length ≤ 1000000) (i : Nat) (s : List UInt8) (v : Value) (hw0 : d.within (i : Int) = 0) (hs : s.length ≤ 128) (hb0 : d.burn.2 = 0)
    (hB : Bytes w v s) (hv : ∀ k, At v k → ¬ F k) : Calls Try.prog 28 #[.pointer (some ⟨D, 0, none⟩), .int .i64 (i : Int), v] w (Stepped w D F { d.burn.1 with P := d.burn.1.P ++ [(full s, i)] } (.int .i64 0)) := by
  have cW := lWithin h (i : Int)
  rw [hw0] at cW
  have cB := Lib.hid (fun w' (hu : Upd Non w w') => lBurn (h.non hu))
  rw [hb0] at cB
  have hn' : d.burn.1.P.length ≤ 1000000 := by rw [Dk.burn_P]; exact hn
  have hiK : i < d.burn.1.K.length := by rw [Dk.burn_K]; have := (Dk.within_0 hw0).2.2; omega
  obtain ⟨d', hd'⟩ : ∃ d', d.burn.1 = d' := ⟨_, rfl⟩
  rw [hd'] at cB hn' hiK ⊢
  obtain ⟨a, c, rfl⟩ := bytes_form hB
  have hs1 : ((128 : Int) < (s.length : Int)) = False := eq_false (by omega)
  have hs2 : (128 < s.length) = False := eq_false (by omega)
  replace hB := Lib.hid hB
  replace hv := Lib.hid hv
  clear h
  go_enter Try.func28, Try.ntmps28
  go_wp2_with fail
  refine cW.mono ?_
  rintro en w1 ⟨rfl, hu1⟩
  simp only []
  go_wp2_with fail
  refine (cB.out _ hu1).mono ?_
  rintro en w2 ⟨rfl, hD2, hu2⟩
  have hU2 : Upd F w w2 := (Upd.non hu1).trans hu2 fun _ _ h => h
  clear hu1 hu2 cB cW
  simp only []
  obtain ⟨Z9, hZ9⟩ : ∃ Z9, (Array.replicate 128 (Value.int .u8 0)).push (.int .i64 0) = Z9 := ⟨_, rfl⟩
  have hz9 := (zero_of_info (P := Try.prog) (t := 77) (v := .agg Z9) (n := 129) (by rw [← hZ9]; exact info_write)).1
  have hZ9s : Z9.size = 129 := by rw [← hZ9]; simp
  have heq : Z9.setIfInBounds 128 (.int .i64 (i : Int)) = (pc (List.replicate 128 0, i)).toArray := by
    rw [← hZ9]
    apply Array.ext_getElem?
    intro j
    simp only [pc, bc_zero, Array.getElem?_setIfInBounds, List.getElem?_toArray, Array.size_push, Array.size_replicate, Array.getElem?_push, Array.getElem?_replicate, List.getElem?_append, List.length_replicate, List.getElem?_replicate]
    by_cases h1 : j < 128
    · have h2 : ¬ 128 = j := by omega
      have h3 : ¬ j = 128 := by omega
      simp [h1, h2, h3]
    · by_cases h2 : j = 128
      · subst h2; simp
      · have h3 : ¬ 128 = j := by omega
        obtain ⟨j', rfl⟩ : ∃ j', j = 129 + j' := ⟨j - 129, by omega⟩
        have h4 : 129 + j' - 128 = j' + 1 := by omega
        simp [h1, h2, h3, h4]
  clear hZ9
  obtain ⟨p0, hp0⟩ : ∃ p0, pc (List.replicate 128 0, i) = p0 := ⟨_, rfl⟩
  have hp0l : p0.length = 129 := by rw [← hp0]; exact pc_length (by simp)
  have hp01 : p0.toArray.all (·.oneCell') = true := by rw [← hp0]; exact all_oneCell_toArray (pc_one _)
  rw [hp0] at heq
  obtain ⟨hth9, hu9, hrw9⟩ := new_row w2 Z9 77 p0 (by omega)
  have hsz9 : (Try.prog.info? 77).map (·.size) = some p0.toArray.size := by rw [List.size_toArray, hp0l]; exact size_write
  have hth9' : (w2.alloc (.cells Z9 77)).there w2.heap.size 0 p0.toArray.size := by rw [List.size_toArray]; exact hth9
  have hrow3 := old_row hrw9
  have hcp := run_copy_bytes ((w2.alloc (.cells Z9 77)).setCells w2.heap.size 0 p0) 3 w2.heap.size 0 128 128 (.slice a s.length c) s ((hB.out.upd hU2 hv.out).non (hu9.toNon fun _ h => h)) hs (by
    have hc := cells_of hrw9
    intro j hj
    refine ⟨?_, hc.2 _⟩
    rw [hc.1, Nat.zero_add, List.getElem?_toArray, List.getElem?_eq_getElem (by omega)]; rfl)
  clear hth9
  replace hp0 := Lib.hid hp0
  replace heq := Lib.hid heq
  replace hu9 := Lib.hid hu9
  replace hrw9 := Lib.hid hrw9
  replace hD2 := Lib.hid hD2
  replace hU2 := Lib.hid hU2
  clear hrow3
  go_wp2_with (first | refine wpList_store_mid rfl 77 _ _ rfl w2.heap.size 0 p0.toArray rfl (congrArg Value.agg heq.out) hth9' hsz9 hp01 ?_ | refine wpList_copy rfl _ _ _ _ rfl _ _ _ rfl rfl hcp ?_)
  have hcells := heap_setCells w2.heap.size 77 (bc s) 0 _ _ hrw9.out (by rw [bc_length, List.size_toArray]; omega)
  rw [List.take_zero, List.nil_append, Nat.zero_add, bc_length, ← hp0.out] at hcells
  have hwr := write_row s i hs
  rw [show (pc (List.replicate 128 0, i)).toArray.toList = pc (List.replicate 128 0, i) from rfl, hwr, hp0.out] at hcells
  have hu4 : Upd (fun k => w2.heap.size ≤ k) w2 ((((w2.alloc (.cells Z9 77)).setCells w2.heap.size 0 p0)).setCells w2.heap.size 0 (bc s)) := hu9.out.trans (upd_setCells _ _ _ _) fun k hk e => by omega
  obtain ⟨w4, hw4⟩ : ∃ w4, ((((w2.alloc (.cells Z9 77)).setCells w2.heap.size 0 p0)).setCells w2.heap.size 0 (bc s)) = w4 := ⟨_, rfl⟩
  rw [hw4] at hcells hu4 ⊢
  clear hw4 hcp hth9' hsz9 hp01
  have hD4 := hD2.out.non (hu4.toNon fun _ h => h)
  have hU4 := Lib.hid (hU2.out.trans hu4 (S := F) (T := fun k => w2.heap.size ≤ k) (fun k hk e => by have := hU2.out.size; omega))
  have hFN : ∀ k, F k → k < w2.heap.size := hD2.out.lt
  obtain ⟨N, hN⟩ : ∃ N, w2.heap.size = N := ⟨_, rfl⟩
  rw [hN] at hFN hcells hu4 ⊢
  have hok4 := Lib.hid hD4.ok
  obtain ⟨g, ck, pv, hX4, hK4, hP4, e1, e2, e3, hF4⟩ := hD4.ex
  have hpN : Hid (¬ At pv N) := Lib.hid fun h => by have := hFN N ((hF4 N).2 (.inr (.inr h))); omega
  have hDN : D < N := hFN D ((hF4 D).2 (.inl rfl))
  have hND : ¬ N = D := by omega
  have hNl := heap_lt hcells
  have hD4l := heap_lt hX4
  have hwl : w.heap.size ≤ w4.heap.size := hU4.out.size
  have x1 : w4.cell? ⟨D, 1, none⟩ = some pv := (cells_of hX4).1 1
  have q1 : w4.frozen? ⟨D, 1, none⟩ = false := (cells_of hX4).2 1
  obtain ⟨pr, hpr⟩ : ∃ pr, pc (full s, i) = pr := ⟨_, rfl⟩
  rw [hpr] at hcells
  have hprl : pr.length = 129 := by rw [← hpr]; exact pc_length (full_length hs)
  have pr_one : ∀ u ∈ pr, u.oneCell' = true := by rw [← hpr]; exact pc_one _
  have hrg4 : Hid (w4.rangeAt N 0 pr) := Lib.hid fun j u hu => by rw [Nat.zero_add, (cells_of hcells).1 j]; simpa using hu
  have hprs : (Try.prog.info? 77).map (·.size) = some pr.length := by rw [hprl]; exact size_write
  obtain ⟨n, hnn⟩ : ∃ n, d'.P.length = n := ⟨_, rfl⟩
  obtain ⟨px, hpx⟩ : ∃ px, (d'.P.map pc).flatten = px := ⟨_, rfl⟩
  have hend : Hid (∀ v5 w5, w5.ownsRow 0 77 129 v5 (n + 1) (px ++ pr) → Upd (At pv) w4 w5 → (∀ k, At v5 k → At pv k ∨ w4.heap.size ≤ k) → DiskAt (w5.setCell ⟨D, 1, none⟩ v5) D (fun k => k = D ∨ k = g ∨ At v5 k) { d' with P := d'.P ++ [(full s, i)] }) := by
    apply Lib.hid
    intro v5 w5 ho hu hnA
    have hX5 := hu.heap hX4 e2
    have hK5 := hu.owns hK4 (fun k hk e => e3 (by rw [← at_of hk]; exact e))
    have hs5 : Upd (fun k => k = D) w5 (w5.setCell ⟨D, 1, none⟩ v5) := Upd.setCell (S := fun k => k = D) w5 (a := ⟨D, 1, none⟩) rfl _
    have hv5D : ¬ At v5 D := fun h => by rcases hnA D h with h | h; exact e2 h; omega
    have hgl : g < w4.heap.size := own_lt hK4 rfl
    have hv5g : ¬ At v5 g := fun h => by rcases hnA g h with h | h; exact e3 h; omega
    refine ⟨⟨hok4.out.n1, hok4.out.n2, hok4.out.k, fun p hp => ?_, hok4.out.f1, hok4.out.f2⟩, g, ck, v5, heap_setCell_same w5 D 1 _ _ _ hX5, hs5.owns hK5 (fun k hk e => e1 (by rw [← at_of hk]; exact e)), ?_, e1, hv5D, hv5g, fun k => Iff.rfl⟩
    · rcases List.mem_append.1 hp with hp | hp
      · exact hok4.out.p p hp
      · rw [List.mem_singleton] at hp
        subst hp
        exact ⟨full_length hs, hiK⟩
    · have := hs5.owns ho (fun k hk e => hv5D (by subst e; exact hk))
      simp only [List.length_append, List.length_cons, List.length_nil, List.map_append, List.map_cons, List.map_nil, List.flatten_append, List.flatten_cons, List.flatten_nil, List.append_nil, hnn, hpx, hpr]
      exact this
  rw [hnn, hpx] at hP4
  rw [hnn] at hn'
  replace hpr := Lib.hid hpr
  replace hpx := Lib.hid hpx
  replace hX4 := Lib.hid hX4
  replace hK4 := Lib.hid hK4
  replace hP4 := Lib.hid hP4
  replace hF4 := Lib.hid hF4
  have hprl2 := Lib.hid hprl
  clear hprl
  replace pr_one := Lib.hid pr_one
  replace hprs := Lib.hid hprs
  clear hD4 hcells hwr hu9 hrw9 hD2 hU2 hFN hu4 hN
  simp only [Act.put, List.setIfInBounds_toArray, List.set_cons_zero, List.set_cons_succ]
  refine wp_only ?_
  refine wp_region_held_drew (S := fun w' => w'.rangeAt N 0 pr) (by kernel_rfl) (by exact range_upd hrg4.out (Upd.drew Non w4) (fun h => h)) (fun hHeld => ?_)
  (refine wpAnyH_take (i := 0) (oi := ?oi_z1) (v := ?v_z1) ?ho_z1 ?hs_z1 ?hf_z1 ?hr_z1 ?hQ_z1 ?hy_z1 ?hS_z1 ?rest_z1; (case hr_z1 => kernel_rfl); (case hf_z1 => kernel_rfl); (case hs_z1 => kernel_rfl); (case ho_z1 => (simp only [List.getElem?_toArray, List.getElem?_cons_succ, List.getElem?_cons_zero]; rfl)); (case hS_z1 => assumption); (case hQ_z1 => exact fun _ _ _ h => h); (case hy_z1 => (refine Or.inl ⟨by rfl, ?_⟩; (intro w hSw; (try dsimp only at hSw); go_simp) <;> with_reducible rfl)); (try simp only [Act.put, List.setIfInBounds_toArray, List.set_cons_zero, List.set_cons_succ]))
  (refine wpAnyH_take (i := 1) (oi := ?oi_z2) (v := ?v_z2) ?ho_z2 ?hs_z2 ?hf_z2 ?hr_z2 ?hQ_z2 ?hy_z2 ?hS_z2 ?rest_z2; (case hr_z2 => kernel_rfl); (case hf_z2 => kernel_rfl); (case hs_z2 => kernel_rfl); (case ho_z2 => (simp only [List.getElem?_toArray, List.getElem?_cons_succ, List.getElem?_cons_zero]; rfl)); (case hS_z2 => assumption); (case hQ_z2 => exact fun _ _ _ h => h); (case hy_z2 => (refine Or.inl ⟨by rfl, ?_⟩; (intro w hSw; (try dsimp only at hSw); go_simp) <;> with_reducible rfl)); (try simp only [Act.put, List.setIfInBounds_toArray, List.set_cons_zero, List.set_cons_succ]))
  (refine wpAnyH_take (i := 2) (oi := ?oi_z3) (v := ?v_z3) ?ho_z3 ?hs_z3 ?hf_z3 ?hr_z3 ?hQ_z3 ?hy_z3 ?hS_z3 ?rest_z3; (case hr_z3 => kernel_rfl); (case hf_z3 => kernel_rfl); (case hs_z3 => kernel_rfl); (case ho_z3 => (simp only [List.getElem?_toArray, List.getElem?_cons_succ, List.getElem?_cons_zero]; rfl)); (case hS_z3 => assumption); (case hQ_z3 => exact fun _ _ _ h => h); (case hy_z3 => (refine Or.inl ⟨by rfl, ?_⟩; (intro w hSw; (try dsimp only at hSw); go_simp) <;> with_reducible rfl)); (try simp only [Act.put, List.setIfInBounds_toArray, List.set_cons_zero, List.set_cons_succ]))
  (refine wpAnyH_take (i := 3) (oi := ?oi_z4) (v := ?v_z4) ?ho_z4 ?hs_z4 ?hf_z4 ?hr_z4 ?hQ_z4 ?hy_z4 ?hS_z4 ?rest_z4; (case hr_z4 => kernel_rfl); (case hf_z4 => kernel_rfl); (case hs_z4 => kernel_rfl); (case ho_z4 => (simp only [List.getElem?_toArray, List.getElem?_cons_succ, List.getElem?_cons_zero]; rfl)); (case hS_z4 => assumption); (case hQ_z4 => exact fun _ _ _ h => h); (case hy_z4 => (refine Or.inl ⟨by rfl, ?_⟩; (intro w hSw; (try dsimp only at hSw); go_simp) <;> with_reducible rfl)); (try simp only [Act.put, List.setIfInBounds_toArray, List.set_cons_zero, List.set_cons_succ]))
  (refine wpAnyH_take (i := 5) (oi := ?oi_z5) (v := ?v_z5) ?ho_z5 ?hs_z5 ?hf_z5 ?hr_z5 ?hQ_z5 ?hy_z5 ?hS_z5 ?rest_z5; (case hr_z5 => kernel_rfl); (case hf_z5 => kernel_rfl); (case hs_z5 => kernel_rfl); (case ho_z5 => (simp only [List.getElem?_toArray, List.getElem?_cons_succ, List.getElem?_cons_zero]; rfl)); (case hS_z5 => assumption); (case hQ_z5 => exact fun _ _ _ h => h); (case hy_z5 => (refine yieldsIf_load_mid ?yw 77 ?yx ?yo N 0 ?ye pr ?yd ?yS ?yu ?yr hprs.out; (case yo => exact rfl); (case yw => rfl); (case ye => rfl); (case yS => exact fun w hSw => hSw); (case yu => exact Try.underlying77); (case yr => rfl))); (try simp only [Act.put, List.setIfInBounds_toArray, List.set_cons_zero, List.set_cons_succ]))
  refine wpAnyH_ready (rs := [4, 6]) (by kernel_rfl) (by simp) ?_
  refine (AllReadyH.cons (o := ?ooz6_0) ?hoz6_0 ?hsz6_0 (AllReadyH.cons (o := ?ooz6_1) ?hoz6_1 ?hsz6_1 AllReadyH.nil))
  case hoz6_0 => (simp only [List.getElem?_toArray, List.getElem?_cons_succ, List.getElem?_cons_zero]; rfl)
  case hoz6_1 => (simp only [List.getElem?_toArray, List.getElem?_cons_succ, List.getElem?_cons_zero]; rfl)
  case hsz6_0 =>
    intro K hK
    go_simp
    try go_wp2_with fail
    refine hK.out _ _ (by exact range_upd hrg4.out (Upd.drew Non w4) (fun h => h)) (fun hHeld => ?_)
    clear hK K
    try simp only [Act.put, List.setIfInBounds_toArray, List.set_cons_zero, List.set_cons_succ]
    refine wpAnyH_ready (rs := [6]) (by kernel_rfl) (by simp) ?_
    refine (AllReadyH.cons (o := ?ooz7_0) ?hoz7_0 ?hsz7_0 AllReadyH.nil)
    case hoz7_0 => (simp only [List.getElem?_toArray, List.getElem?_cons_succ, List.getElem?_cons_zero]; rfl)
    case hsz7_0 =>
      intro K hK
      (refine step_build1 ?xg1 46 77 ?xx1 ?xo1 Try.underlying46 info_write (by omega) (by omega) pr hprl2.out ?xe1 ?xk1; (case xo1 => exact rfl); (case xg1 => rfl); (case xe1 => rfl))
      case' xk1 => refine hK.out _ _ (by exact range_upd hrg4.out (((Upd.refl Non w4).then_alloc _).then_drew) (fun h => h)) (fun hHeld => ?_)
      clear hK K
      try simp only [Act.put, List.setIfInBounds_toArray, List.set_cons_zero, List.set_cons_succ]
      refine wpAnyH_ready (rs := [7]) (by kernel_rfl) (by simp) ?_
      refine (AllReadyH.cons (o := ?ooz8_0) ?hoz8_0 ?hsz8_0 AllReadyH.nil)
      case hoz8_0 => (simp only [List.getElem?_toArray, List.getElem?_cons_succ, List.getElem?_cons_zero]; rfl)
      case hsz8_0 =>
        intro K hK
        (refine step_app1 ?yga12 ?ysa12 ?yxa12 46 ?yoa12 0 77 _ 129 136 Try.underlying46 info_write3 (by simp [Value.cells]) pv n px ?yha12 hP4.out pr w4.heap.size ?yia12 rfl hprl2.out pr_one.out (by unfold maxLen; omega) (by omega) (Nat.zero_le _) ?yka12; (case yoa12 => exact rfl); (case yga12 => rfl); (case yha12 => rfl); (case yia12 => rfl))
        case' yka12 => intro v5 w5 hoA huA hnA
        obtain ⟨_, a5, c5, rfl, -⟩ := has_of_owns hoA
        refine hK.out _ _ (by exact range_upd hrg4.out huA hpN.out) (fun hHeld => ?_)
        clear hK K
        try simp only [Act.put, List.setIfInBounds_toArray, List.set_cons_zero, List.set_cons_succ]
        have y1 := huA.cell x1 e2
        have z1 : w5.frozen? ⟨D, 1, none⟩ = false := (World.frozen?_of_block (a := ⟨D, 1, none⟩) (huA.block D hD4l e2)).trans q1
        clear x1 q1
        refine wpAnyH_ready (rs := [8]) (by kernel_rfl) (by simp) ?_
        refine (AllReadyH.cons (o := ?ooz9_0) ?hoz9_0 ?hsz9_0 AllReadyH.nil)
        case hoz9_0 => (simp only [List.getElem?_toArray, List.getElem?_cons_succ, List.getElem?_cons_zero]; rfl)
        case hsz9_0 =>
          intro K hK
          go_simp
          try go_wp2_with fail
          refine hK.out _ _ (by exact range_upd hrg4.out huA hpN.out) (fun hHeld => ?_)
          clear hK K
          try simp only [Act.put, List.setIfInBounds_toArray, List.set_cons_zero, List.set_cons_succ]
          refine wpAnyH_ready (rs := [9]) (by kernel_rfl) (by simp) ?_
          refine (AllReadyH.cons (o := ?ooz10_0) ?hoz10_0 ?hsz10_0 AllReadyH.nil)
          case hoz10_0 => (simp only [List.getElem?_toArray, List.getElem?_cons_succ, List.getElem?_cons_zero]; rfl)
          case hsz10_0 =>
            intro K hK
            go_simp
            try go_wp2_with fail
            refine hK.out _ _ (by exact range_upd hrg4.out huA hpN.out) (fun hHeld => ?_)
            clear hK K
            try simp only [Act.put, List.setIfInBounds_toArray, List.set_cons_zero, List.set_cons_succ]
            refine wpAnyH_ready (rs := [10]) (by kernel_rfl) (by simp) ?_
            refine (AllReadyH.cons (o := ?ooz11_0) ?hoz11_0 ?hsz11_0 AllReadyH.nil)
            case hoz11_0 => (simp only [List.getElem?_toArray, List.getElem?_cons_succ, List.getElem?_cons_zero]; rfl)
            case hsz11_0 =>
              intro K hK
              go_simp
              try go_wp2_with fail
              refine hK.out _ _ (by exact range_upd (range_upd hrg4.out huA hpN.out) (Upd.setCell (S := fun k => k = D) w5 (a := ⟨D, 1, none⟩) rfl _) hND) (fun hHeld => ?_)
              clear hK K
              try simp only [Act.put, List.setIfInBounds_toArray, List.set_cons_zero, List.set_cons_succ]
              refine wpAnyH_done (by kernel_rfl) ?_ _
              clear hHeld
              go_wp2_with fail
              go_ret
              refine ⟨rfl, fun k => k = D ∨ k = g ∨ At (.slice a5 (n + 1) c5) k, hend.out _ w5 hoA huA hnA, ?_, ?_⟩
              · exact (hU4.out.trans huA fun k hk e => (hF4.out k).2 (.inr (.inr e))).then_setCell (p := ⟨D, 1, none⟩) (fun _ => (hF4.out D).2 (.inl rfl)) _
              · intro k hk
                rcases hk with rfl | rfl | hk
                · exact .inl ((hF4.out _).2 (.inl rfl))
                · exact .inl ((hF4.out _).2 (.inr (.inl rfl)))
                · rcases hnA k hk with h | h
                  · exact .inl ((hF4.out _).2 (.inr (.inr h)))
                  · exact .inr (by omega)
  case hsz6_1 =>
    intro K hK
    (refine step_build1 ?xg2 46 77 ?xx2 ?xo2 Try.underlying46 info_write (by omega) (by omega) pr hprl2.out ?xe2 ?xk2; (case xo2 => exact rfl); (case xg2 => rfl); (case xe2 => rfl))
    case' xk2 => refine hK.out _ _ (by exact range_upd hrg4.out (((Upd.refl Non w4).then_alloc _).then_drew) (fun h => h)) (fun hHeld => ?_)
    clear hK K
    try simp only [Act.put, List.setIfInBounds_toArray, List.set_cons_zero, List.set_cons_succ]
    have x1' : ((w4.alloc (.cells pr.toArray 77)).drew).cell? ⟨D, 1, none⟩ = some pv := (((Upd.refl Non w4).then_alloc _).then_drew).cell x1 (fun h => h)
    refine wpAnyH_ready (rs := [4]) (by kernel_rfl) (by simp) ?_
    refine (AllReadyH.cons (o := ?ooz13_0) ?hoz13_0 ?hsz13_0 AllReadyH.nil)
    case hoz13_0 => (simp only [List.getElem?_toArray, List.getElem?_cons_succ, List.getElem?_cons_zero]; rfl)
    case hsz13_0 =>
      intro K hK
      go_simp
      try go_wp2_with fail
      refine hK.out _ _ (by exact range_upd hrg4.out (((Upd.refl Non w4).then_alloc _).then_drew) (fun h => h)) (fun hHeld => ?_)
      clear hK K
      try simp only [Act.put, List.setIfInBounds_toArray, List.set_cons_zero, List.set_cons_succ]
      refine wpAnyH_ready (rs := [7]) (by kernel_rfl) (by simp) ?_
      refine (AllReadyH.cons (o := ?ooz14_0) ?hoz14_0 ?hsz14_0 AllReadyH.nil)
      case hoz14_0 => (simp only [List.getElem?_toArray, List.getElem?_cons_succ, List.getElem?_cons_zero]; rfl)
      case hsz14_0 =>
        intro K hK
        (refine step_app1 ?yga18 ?ysa18 ?yxa18 46 ?yoa18 0 77 _ 129 136 Try.underlying46 info_write3 (by simp [Value.cells]) pv n px ?yha18 hP4.out pr w4.heap.size ?yia18 rfl hprl2.out pr_one.out (by unfold maxLen; omega) (by omega) (Nat.zero_le _) ?yka18; (case yoa18 => exact rfl); (case yga18 => rfl); (case yha18 => rfl); (case yia18 => rfl))
        case' yka18 => intro v5 w5 hoA huA hnA
        obtain ⟨_, a5, c5, rfl, -⟩ := has_of_owns hoA
        refine hK.out _ _ (by exact range_upd hrg4.out huA hpN.out) (fun hHeld => ?_)
        clear hK K
        try simp only [Act.put, List.setIfInBounds_toArray, List.set_cons_zero, List.set_cons_succ]
        have y1 := huA.cell x1 e2
        have z1 : w5.frozen? ⟨D, 1, none⟩ = false := (World.frozen?_of_block (a := ⟨D, 1, none⟩) (huA.block D hD4l e2)).trans q1
        clear x1 q1
        refine wpAnyH_ready (rs := [8]) (by kernel_rfl) (by simp) ?_
        refine (AllReadyH.cons (o := ?ooz15_0) ?hoz15_0 ?hsz15_0 AllReadyH.nil)
        case hoz15_0 => (simp only [List.getElem?_toArray, List.getElem?_cons_succ, List.getElem?_cons_zero]; rfl)
        case hsz15_0 =>
          intro K hK
          go_simp
          try go_wp2_with fail
          refine hK.out _ _ (by exact range_upd hrg4.out huA hpN.out) (fun hHeld => ?_)
          clear hK K
          try simp only [Act.put, List.setIfInBounds_toArray, List.set_cons_zero, List.set_cons_succ]
          refine wpAnyH_ready (rs := [9]) (by kernel_rfl) (by simp) ?_
          refine (AllReadyH.cons (o := ?ooz16_0) ?hoz16_0 ?hsz16_0 AllReadyH.nil)
          case hoz16_0 => (simp only [List.getElem?_toArray, List.getElem?_cons_succ, List.getElem?_cons_zero]; rfl)
          case hsz16_0 =>
            intro K hK
            go_simp
            try go_wp2_with fail
            refine hK.out _ _ (by exact range_upd hrg4.out huA hpN.out) (fun hHeld => ?_)
            clear hK K
            try simp only [Act.put, List.setIfInBounds_toArray, List.set_cons_zero, List.set_cons_succ]
            refine wpAnyH_ready (rs := [10]) (by kernel_rfl) (by simp) ?_
            refine (AllReadyH.cons (o := ?ooz17_0) ?hoz17_0 ?hsz17_0 AllReadyH.nil)
            case hoz17_0 => (simp only [List.getElem?_toArray, List.getElem?_cons_succ, List.getElem?_cons_zero]; rfl)
            case hsz17_0 =>
              intro K hK
              go_simp
              try go_wp2_with fail
              refine hK.out _ _ (by exact range_upd (range_upd hrg4.out huA hpN.out) (Upd.setCell (S := fun k => k = D) w5 (a := ⟨D, 1, none⟩) rfl _) hND) (fun hHeld => ?_)
              clear hK K
              try simp only [Act.put, List.setIfInBounds_toArray, List.set_cons_zero, List.set_cons_succ]
              refine wpAnyH_done (by kernel_rfl) ?_ _
              clear hHeld
              go_wp2_with fail
              go_ret
              refine ⟨rfl, fun k => k = D ∨ k = g ∨ At (.slice a5 (n + 1) c5) k, hend.out _ w5 hoA huA hnA, ?_, ?_⟩
              · exact (hU4.out.trans huA fun k hk e => (hF4.out k).2 (.inr (.inr e))).then_setCell (p := ⟨D, 1, none⟩) (fun _ => (hF4.out D).2 (.inl rfl)) _
              · intro k hk
                rcases hk with rfl | rfl | hk
                · exact .inl ((hF4.out _).2 (.inl rfl))
                · exact .inl ((hF4.out _).2 (.inr (.inl rfl)))
                · rcases hnA k hk with h | h
                  · exact .inl ((hF4.out _).2 (.inr (.inr h)))
                  · exact .inr (by omega)
end Go.Proofs.Ytmnoldikimcafaa

namespace Go.Proofs.Ytmnoldikimcafaa
open Go.RowKit Go.Amb Go.Shelf
set_option linter.unusedVariables false
set_option linter.unusedSimpArgs false
set_option maxRecDepth 100000
theorem burn_cases (d : Dk) : d.burn.2 = 0 ∨ (d.burn.2 = 20) := by
  unfold Dk.burn
  split
  · exact .inr rfl
  · split <;> exact .inl rfl
theorem lWrite {w : World} {D : Nat} {F : Nat → Prop} {d : Dk} (h : DiskAt w D F d) (hn : d.P.length ≤ 1000000) (i : Int) (s : List UInt8) (v : Value) (hB : Bytes w v s) (hv : ∀ k, At v k → ¬ F k) :
    Calls Try.prog 28 #[.pointer (some ⟨D, 0, none⟩), .int .i64 i, v] w (Stepped w D F (d.write i s).1 (.int .i64 (d.write i s).2)) := by
  unfold Dk.write
  have cW := lWithin h i
  by_cases hw : d.within i = 0
  · rw [if_neg (by simpa using hw)]
    by_cases hs : 128 < s.length
    · rw [if_pos hs]
      rw [hw] at cW
      obtain ⟨a, c, rfl⟩ := bytes_form hB
      have hs' : (128 : Int) < (s.length : Int) := by omega
      have hh := Lib.hid h
      clear h hB hv
      go_enter Try.func28, Try.ntmps28
      go_wp2_with fail
      refine cW.mono ?_
      rintro en w1 ⟨rfl, hu1⟩
      simp only []
      go_wp2_with fail
      go_ret
      exact ⟨rfl, F, hh.out.non hu1, hu1.non, fun k hk => .inl hk⟩
    · rw [if_neg hs]
      rcases burn_cases d with hb | hb
      · rw [if_neg (by simpa using hb)]
        have hw0 := Dk.within_0 hw
        obtain ⟨k, rfl⟩ := Int.eq_ofNat_of_zero_le hw0.2.1
        rw [Int.toNat_natCast]
        exact lWriteOk h hn k s v hw (by omega) hb hB hv
      · rw [if_pos (by rw [hb]; simp)]
        rw [hw] at cW
        have cB := Lib.hid (fun w' (hu : Upd Non w w') => lBurn (h.non hu))
        rw [hb] at cB ⊢
        obtain ⟨a, c, rfl⟩ := bytes_form hB
        have hs1 : ((128 : Int) < (s.length : Int)) = False := eq_false (by omega)
        have hs2 : (128 < s.length) = False := eq_false (by omega)
        clear h hB hv hs
        go_enter Try.func28, Try.ntmps28
        go_wp2_with fail
        refine cW.mono ?_
        rintro en w1 ⟨rfl, hu1⟩
        simp only []
        go_wp2_with fail
        refine (cB.out _ hu1).mono ?_
        rintro en w2 ⟨rfl, hD2, hu2⟩
        replace hD2 := Lib.hid hD2
        simp only []
        go_wp2_with fail
        go_ret
        exact ⟨rfl, F, hD2.out, (Upd.non hu1).trans hu2 fun _ _ h => h, fun k hk => .inl hk⟩
  · rw [if_pos hw]
    obtain ⟨e, he⟩ : ∃ e, d.within i = e := ⟨_, rfl⟩
    rw [he] at hw cW ⊢
    have hw1 : (e == 0) = false := by simpa using hw
    have hw2 : (e != 0) = true := by simpa using hw
    have hw3 : (e = 0) = False := eq_false hw
    obtain ⟨a, c, rfl⟩ := bytes_form hB
    have hh := Lib.hid h
    clear h hB hv hw
    go_enter Try.func28, Try.ntmps28
    go_wp2_with fail
    refine cW.mono ?_
    rintro en w1 ⟨rfl, hu1⟩
    simp only []
    go_wp2_with fail
    go_ret
    exact ⟨rfl, F, hh.out.non hu1, hu1.non, fun k hk => .inl hk⟩
end Go.Proofs.Ytmnoldikimcafaa
