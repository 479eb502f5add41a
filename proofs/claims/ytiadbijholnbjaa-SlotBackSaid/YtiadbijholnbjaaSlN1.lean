/- The reference's put. -/
import Derived.Test.YtiadbijholnbjaaSlN0
import Derived.Test.YtiadbijholnbjaaTagB
import Derived.Test.YtiadbijholnbjaaRefA
import Derived.Test.YtiadbijholnbjaaSlI
namespace Go.Proofs.Ytiadbijholnbjaa
open Go.RowKit Go.Amb Go.Shelf
set_option linter.unusedVariables false
set_option linter.unusedSimpArgs false
attribute [local go_sem] Go.Amb.fld_length
set_option maxRecDepth 100000
set_option maxHeartbeats 8000000 in
theorem refPut1 (e q : Int) (d : List UInt8) (w : World) (hR : rightS ⟨e, q, true, false, d⟩ = true) : Calls Try.prog 29 #[(⟨e, q, true, false, d⟩ : S5).v] w (Ret (.string ⟨(slotB ⟨e, q, true, false, d⟩).toArray⟩) w) := by
  have hRR := of_decide_eq_true hR
  simp only at hRR
  have hd : d.length ≤ 108 := hRR.2.2
  have he1 := hRR.1.1
  have he2 := hRR.1.2
  have hq1 := hRR.2.1.1
  have hq2 := hRR.2.1.2
  clear hRR
  have hmk0 := fun w => run_make1 Try.underlying42 (show (Try.prog.info? 5).map (fun i => (i.zero, i.size, i.bytes)) = some (some (.int .u8 0), 1, 1) from rfl) rfl (108 - d.length) (by omega) (by omega) w
  have hm : (108 : Int) - (d.length : Int) = ((108 - d.length : Nat) : Int) := by omega
  have hmw : IntKind.i64.wrap ((108 - d.length : Nat) : Int) = ((108 - d.length : Nat) : Int) := IntWalk.i64_in _ ⟨by omega, by omega⟩
  have h16 : ¬ 9223372036854775807 < 16 + d.length := by omega
  have h124 : ¬ 9223372036854775807 < 16 + d.length + (108 - d.length) := by omega
  have hbx := cells_of (heap_alloc_new w (.cells #[.int .i64 e, .int .i64 q, .bool true, .bool false, .string ⟨d.toArray⟩] 41))
  have x0 := hbx.1 0
  have x1 := hbx.1 1
  have x4 := hbx.1 4
  have hU := Upd.alloc Non w (.cells #[.int .i64 e, .int .i64 q, .bool true, .bool false, .string ⟨d.toArray⟩] 41)
  clear hbx
  replace hR := Lib.hid hR
  have hslot0 : slotB ⟨e, q, true, false, d⟩ = slotBody ⟨e, q, true, false, d⟩ ++ fld (sumC (slotBody ⟨e, q, true, false, d⟩) : Nat) 4 := rfl
  have hstr0 := body_str (flagS true false : Nat) e q (d.length : Int) d (108 - d.length)
  rw [show [83] ++ fld (flagS true false : Nat) 1 ++ fld e 4 ++ fld q 8 ++ fld (d.length : Int) 2 ++ d ++ List.replicate (108 - d.length) 0 = slotBody ⟨e, q, true, false, d⟩ from rfl] at hstr0
  have hlen0 : (slotBody ⟨e, q, true, false, d⟩).length = 124 := by
    unfold slotBody
    simp only [List.length_append, fld_length, List.length_replicate, List.length_cons, List.length_nil]
    omega
  obtain ⟨BB, hBB⟩ : ∃ BB, slotBody ⟨e, q, true, false, d⟩ = BB := ⟨_, rfl⟩
  rw [hBB] at hslot0 hstr0 hlen0
  have hsl := sumC_lt BB
  obtain ⟨sm, hsm⟩ : ∃ sm, sumC BB = sm := ⟨_, rfl⟩
  rw [hsm] at hslot0 hsl
  have h128 : ¬ 9223372036854775807 < BB.length + 4 := by omega
  have hsl2 : (sm : Int) < 4294967296 := by omega
  clear hsl
  replace hsm := Lib.hid hsm
  have hBBl := Lib.hid hlen0
  clear hlen0 hBB
  have hslot := Lib.hid hslot0
  have hstr : _ = _ := hstr0
  rw [show ((flagS true false : Nat) : Int) = 1 from rfl] at hstr
  clear hslot0 hstr0
  go_enter Try.func29, Try.ntmps29
  go_wp2_with fail
  refine wp_region_held_drew (S := (fun w' => w'.cell? ⟨w.heap.size, 0, none⟩ = some (.int .i64 e) ∧ w'.cell? ⟨w.heap.size, 1, none⟩ = some (.int .i64 q) ∧ w'.cell? ⟨w.heap.size, 4, none⟩ = some (.string ⟨d.toArray⟩))) (by kernel_rfl) (by (try dsimp only); exact ⟨x0, x1, x4⟩) (fun hHeld => ?_)
  replace hU := hU.then_drew
  (refine wpAnyH_take (i := 0) (oi := ?oi_134) (v := ?v_134) ?ho_134 ?hs_134 ?hf_134 ?hr_134 ?hQ_134 ?hy_134 ?hS_134 ?rest_134; (case hr_134 => kernel_rfl); (case hf_134 => kernel_rfl); (case hs_134 => kernel_rfl); (case ho_134 => (simp only [List.getElem?_toArray, List.getElem?_cons_succ, List.getElem?_cons_zero]; rfl)); (case hS_134 => assumption); (case hQ_134 => exact fun _ _ _ h => h); (case hy_134 => (refine Or.inl ⟨by rfl, ?_⟩; (intro w hSw; (try dsimp only at hSw); go_simp) <;> with_reducible rfl)); (try simp only [Act.put, List.setIfInBounds_toArray, List.set_cons_zero, List.set_cons_succ]))
  (refine wpAnyH_take (i := 3) (oi := ?oi_135) (v := ?v_135) ?ho_135 ?hs_135 ?hf_135 ?hr_135 ?hQ_135 ?hy_135 ?hS_135 ?rest_135; (case hr_135 => kernel_rfl); (case hf_135 => kernel_rfl); (case hs_135 => kernel_rfl); (case ho_135 => (simp only [List.getElem?_toArray, List.getElem?_cons_succ, List.getElem?_cons_zero]; rfl)); (case hS_135 => assumption); (case hQ_135 => exact fun _ _ _ h => h); (case hy_135 => (refine Or.inl ⟨by rfl, ?_⟩; (intro w hSw; (try dsimp only at hSw); go_simp) <;> with_reducible rfl)); (try simp only [Act.put, List.setIfInBounds_toArray, List.set_cons_zero, List.set_cons_succ]))
  (refine wpAnyH_take (i := 4) (oi := ?oi_136) (v := ?v_136) ?ho_136 ?hs_136 ?hf_136 ?hr_136 ?hQ_136 ?hy_136 ?hS_136 ?rest_136; (case hr_136 => kernel_rfl); (case hf_136 => kernel_rfl); (case hs_136 => kernel_rfl); (case ho_136 => (simp only [List.getElem?_toArray, List.getElem?_cons_succ, List.getElem?_cons_zero]; rfl)); (case hS_136 => assumption); (case hQ_136 => exact fun _ _ _ h => h); (case hy_136 => (refine Or.inl ⟨by rfl, ?_⟩; (intro w hSw; (try dsimp only at hSw); go_simp) <;> with_reducible rfl)); (try simp only [Act.put, List.setIfInBounds_toArray, List.set_cons_zero, List.set_cons_succ]))
  (refine wpAnyH_take (i := 7) (oi := ?oi_137) (v := ?v_137) ?ho_137 ?hs_137 ?hf_137 ?hr_137 ?hQ_137 ?hy_137 ?hS_137 ?rest_137; (case hr_137 => kernel_rfl); (case hf_137 => kernel_rfl); (case hs_137 => kernel_rfl); (case ho_137 => (simp only [List.getElem?_toArray, List.getElem?_cons_succ, List.getElem?_cons_zero]; rfl)); (case hS_137 => assumption); (case hQ_137 => exact fun _ _ _ h => h); (case hy_137 => (refine Or.inl ⟨by rfl, ?_⟩; (intro w hSw; (try dsimp only at hSw); go_simp) <;> with_reducible rfl)); (try simp only [Act.put, List.setIfInBounds_toArray, List.set_cons_zero, List.set_cons_succ]))
  (refine wpAnyH_take (i := 8) (oi := ?oi_138) (v := ?v_138) ?ho_138 ?hs_138 ?hf_138 ?hr_138 ?hQ_138 ?hy_138 ?hS_138 ?rest_138; (case hr_138 => kernel_rfl); (case hf_138 => kernel_rfl); (case hs_138 => kernel_rfl); (case ho_138 => (simp only [List.getElem?_toArray, List.getElem?_cons_succ, List.getElem?_cons_zero]; rfl)); (case hS_138 => assumption); (case hQ_138 => exact fun _ _ _ h => h); (case hy_138 => (refine Or.inl ⟨by rfl, ?_⟩; (intro w hSw; (try dsimp only at hSw); go_simp) <;> with_reducible rfl)); (try simp only [Act.put, List.setIfInBounds_toArray, List.set_cons_zero, List.set_cons_succ]))
  (refine wpAnyH_take (i := 11) (oi := ?oi_139) (v := ?v_139) ?ho_139 ?hs_139 ?hf_139 ?hr_139 ?hQ_139 ?hy_139 ?hS_139 ?rest_139; (case hr_139 => kernel_rfl); (case hf_139 => kernel_rfl); (case hs_139 => kernel_rfl); (case ho_139 => (simp only [List.getElem?_toArray, List.getElem?_cons_succ, List.getElem?_cons_zero]; rfl)); (case hS_139 => assumption); (case hQ_139 => exact fun _ _ _ h => h); (case hy_139 => (refine Or.inl ⟨by rfl, ?_⟩; (intro w hSw; (try dsimp only at hSw); go_simp) <;> with_reducible rfl)); (try simp only [Act.put, List.setIfInBounds_toArray, List.set_cons_zero, List.set_cons_succ]))
  (refine wpAnyH_take (i := 12) (oi := ?oi_140) (v := ?v_140) ?ho_140 ?hs_140 ?hf_140 ?hr_140 ?hQ_140 ?hy_140 ?hS_140 ?rest_140; (case hr_140 => kernel_rfl); (case hf_140 => kernel_rfl); (case hs_140 => kernel_rfl); (case ho_140 => (simp only [List.getElem?_toArray, List.getElem?_cons_succ, List.getElem?_cons_zero]; rfl)); (case hS_140 => assumption); (case hQ_140 => exact fun _ _ _ h => h); (case hy_140 => (refine Or.inl ⟨by rfl, ?_⟩; (intro w hSw; (try dsimp only at hSw); go_simp) <;> with_reducible rfl)); (try simp only [Act.put, List.setIfInBounds_toArray, List.set_cons_zero, List.set_cons_succ]))
  (refine wpAnyH_take (i := 13) (oi := ?oi_141) (v := ?v_141) ?ho_141 ?hs_141 ?hf_141 ?hr_141 ?hQ_141 ?hy_141 ?hS_141 ?rest_141; (case hr_141 => kernel_rfl); (case hf_141 => kernel_rfl); (case hs_141 => kernel_rfl); (case ho_141 => (simp only [List.getElem?_toArray, List.getElem?_cons_succ, List.getElem?_cons_zero]; rfl)); (case hS_141 => assumption); (case hQ_141 => exact fun _ _ _ h => h); (case hy_141 => (refine Or.inl ⟨by rfl, ?_⟩; (intro w hSw; (try dsimp only at hSw); go_simp) <;> with_reducible rfl)); (try simp only [Act.put, List.setIfInBounds_toArray, List.set_cons_zero, List.set_cons_succ]))
  (refine wpAnyH_take (i := 16) (oi := ?oi_142) (v := ?v_142) ?ho_142 ?hs_142 ?hf_142 ?hr_142 ?hQ_142 ?hy_142 ?hS_142 ?rest_142; (case hr_142 => kernel_rfl); (case hf_142 => kernel_rfl); (case hs_142 => kernel_rfl); (case ho_142 => (simp only [List.getElem?_toArray, List.getElem?_cons_succ, List.getElem?_cons_zero]; rfl)); (case hS_142 => assumption); (case hQ_142 => exact fun _ _ _ h => h); (case hy_142 => (refine Or.inl ⟨by rfl, ?_⟩; (intro w hSw; (try dsimp only at hSw); go_simp) <;> with_reducible rfl)); (try simp only [Act.put, List.setIfInBounds_toArray, List.set_cons_zero, List.set_cons_succ]))
  (refine wpAnyH_take (i := 17) (oi := ?oi_143) (v := ?v_143) ?ho_143 ?hs_143 ?hf_143 ?hr_143 ?hQ_143 ?hy_143 ?hS_143 ?rest_143; (case hr_143 => kernel_rfl); (case hf_143 => kernel_rfl); (case hs_143 => kernel_rfl); (case ho_143 => (simp only [List.getElem?_toArray, List.getElem?_cons_succ, List.getElem?_cons_zero]; rfl)); (case hS_143 => assumption); (case hQ_143 => exact fun _ _ _ h => h); (case hy_143 => (refine Or.inl ⟨by rfl, ?_⟩; (intro w hSw; (try dsimp only at hSw); go_simp) <;> with_reducible rfl)); (try simp only [Act.put, List.setIfInBounds_toArray, List.set_cons_zero, List.set_cons_succ]))
  (refine wpAnyH_take (i := 19) (oi := ?oi_144) (v := ?v_144) ?ho_144 ?hs_144 ?hf_144 ?hr_144 ?hQ_144 ?hy_144 ?hS_144 ?rest_144; (case hr_144 => kernel_rfl); (case hf_144 => kernel_rfl); (case hs_144 => kernel_rfl); (case ho_144 => (simp only [List.getElem?_toArray, List.getElem?_cons_succ, List.getElem?_cons_zero]; rfl)); (case hS_144 => assumption); (case hQ_144 => exact fun _ _ _ h => h); (case hy_144 => (refine Or.inl ⟨by rfl, ?_⟩; (intro w hSw; (try dsimp only at hSw); go_simp) <;> with_reducible rfl)); (try simp only [Act.put, List.setIfInBounds_toArray, List.set_cons_zero, List.set_cons_succ]))
  (refine wpAnyH_take (i := 20) (oi := ?oi_145) (v := ?v_145) ?ho_145 ?hs_145 ?hf_145 ?hr_145 ?hQ_145 ?hy_145 ?hS_145 ?rest_145; (case hr_145 => kernel_rfl); (case hf_145 => kernel_rfl); (case hs_145 => kernel_rfl); (case ho_145 => (simp only [List.getElem?_toArray, List.getElem?_cons_succ, List.getElem?_cons_zero]; rfl)); (case hS_145 => assumption); (case hQ_145 => exact fun _ _ _ h => h); (case hy_145 => (refine Or.inl ⟨by rfl, ?_⟩; (intro w hSw; (try dsimp only at hSw); go_simp) <;> with_reducible rfl)); (try simp only [Act.put, List.setIfInBounds_toArray, List.set_cons_zero, List.set_cons_succ]))
  (refine wpAnyH_take (i := 21) (oi := ?oi_146) (v := ?v_146) ?ho_146 ?hs_146 ?hf_146 ?hr_146 ?hQ_146 ?hy_146 ?hS_146 ?rest_146; (case hr_146 => kernel_rfl); (case hf_146 => kernel_rfl); (case hs_146 => kernel_rfl); (case ho_146 => (simp only [List.getElem?_toArray, List.getElem?_cons_succ, List.getElem?_cons_zero]; rfl)); (case hS_146 => assumption); (case hQ_146 => exact fun _ _ _ h => h); (case hy_146 => (refine Or.inl ⟨by rfl, ?_⟩; (intro w hSw; (try dsimp only at hSw); go_simp) <;> with_reducible rfl)); (try simp only [Act.put, List.setIfInBounds_toArray, List.set_cons_zero, List.set_cons_succ]))
  (refine wpAnyH_take (i := 22) (oi := ?oi_147) (v := ?v_147) ?ho_147 ?hs_147 ?hf_147 ?hr_147 ?hQ_147 ?hy_147 ?hS_147 ?rest_147; (case hr_147 => kernel_rfl); (case hf_147 => kernel_rfl); (case hs_147 => kernel_rfl); (case ho_147 => (simp only [List.getElem?_toArray, List.getElem?_cons_succ, List.getElem?_cons_zero]; rfl)); (case hS_147 => assumption); (case hQ_147 => exact fun _ _ _ h => h); (case hy_147 => (refine Or.inl ⟨by rfl, ?_⟩; (intro w hSw; (try dsimp only at hSw); go_simp) <;> with_reducible rfl)); (try simp only [Act.put, List.setIfInBounds_toArray, List.set_cons_zero, List.set_cons_succ]))
  refine wpAnyH_ready (rs := [1, 23]) (by kernel_rfl) (by simp) ?_
  refine AllReadyH.cons (o := ?oo148_0) ?ho148_0 ?hs148_0 (AllReadyH.cons (o := ?oo148_1) ?ho148_1 ?hs148_1 AllReadyH.nil)
  case ho148_0 => (simp only [List.getElem?_toArray, List.getElem?_cons_succ, List.getElem?_cons_zero]; rfl)
  case ho148_1 => (simp only [List.getElem?_toArray, List.getElem?_cons_succ, List.getElem?_cons_zero]; rfl)
  case hs148_0 =>
    intro K hK; go_simp; go_at_call 42; refine (refField 1 1 _ (by omega) (by omega) (by decide)).mono ?_; rintro en wn ⟨rfl, hu⟩
    have x0 := hu.cell x0 fun h => h; have x1 := hu.cell x1 fun h => h; have x4 := hu.cell x4 fun h => h
    have hU := (by first | exact hU.trans hu fun _ _ h => h | exact (hU.then_drew).trans hu fun _ _ h => h : Upd Non w wn)
    try have hB := hB.non hu
    clear hu
    try go_wp2_with fail
    refine hK.out _ _ ?_ (fun hHeld => ?_)
    · (try dsimp only); first | exact ⟨x0, x1, x4⟩ | exact ⟨(Upd.alloc Non _ _).cell x0 fun h => h, (Upd.alloc Non _ _).cell x1 fun h => h, (Upd.alloc Non _ _).cell x4 fun h => h⟩
    clear hK K
    try simp only [Act.put, List.setIfInBounds_toArray, List.set_cons_zero, List.set_cons_succ]
    (refine wpAnyH_take (i := 2) (oi := ?oi_149) (v := ?v_149) ?ho_149 ?hs_149 ?hf_149 ?hr_149 ?hQ_149 ?hy_149 ?hS_149 ?rest_149; (case hr_149 => kernel_rfl); (case hf_149 => kernel_rfl); (case hs_149 => kernel_rfl); (case ho_149 => (simp only [List.getElem?_toArray, List.getElem?_cons_succ, List.getElem?_cons_zero]; rfl)); (case hS_149 => assumption); (case hQ_149 => exact fun _ _ _ h => h); (case hy_149 => (refine Or.inl ⟨by rfl, ?_⟩; (intro w hSw; (try dsimp only at hSw); go_simp) <;> with_reducible rfl)); (try simp only [Act.put, List.setIfInBounds_toArray, List.set_cons_zero, List.set_cons_succ]))
    refine wpAnyH_ready (rs := [5, 23]) (by kernel_rfl) (by simp) ?_
    refine AllReadyH.cons (o := ?oo150_0) ?ho150_0 ?hs150_0 (AllReadyH.cons (o := ?oo150_1) ?ho150_1 ?hs150_1 AllReadyH.nil)
    case ho150_0 => (simp only [List.getElem?_toArray, List.getElem?_cons_succ, List.getElem?_cons_zero]; rfl)
    case ho150_1 => (simp only [List.getElem?_toArray, List.getElem?_cons_succ, List.getElem?_cons_zero]; rfl)
    case hs150_0 =>
      intro K hK; go_simp; go_at_call 42; refine (refField e 4 _ (by omega) (by omega) (by decide)).mono ?_; rintro en wn ⟨rfl, hu⟩
      have x0 := hu.cell x0 fun h => h; have x1 := hu.cell x1 fun h => h; have x4 := hu.cell x4 fun h => h
      have hU := (by first | exact hU.trans hu fun _ _ h => h | exact (hU.then_drew).trans hu fun _ _ h => h : Upd Non w wn)
      try have hB := hB.non hu
      clear hu
      try go_wp2_with fail
      refine hK.out _ _ ?_ (fun hHeld => ?_)
      · (try dsimp only); first | exact ⟨x0, x1, x4⟩ | exact ⟨(Upd.alloc Non _ _).cell x0 fun h => h, (Upd.alloc Non _ _).cell x1 fun h => h, (Upd.alloc Non _ _).cell x4 fun h => h⟩
      clear hK K
      try simp only [Act.put, List.setIfInBounds_toArray, List.set_cons_zero, List.set_cons_succ]
      (refine wpAnyH_take (i := 6) (oi := ?oi_151) (v := ?v_151) ?ho_151 ?hs_151 ?hf_151 ?hr_151 ?hQ_151 ?hy_151 ?hS_151 ?rest_151; (case hr_151 => kernel_rfl); (case hf_151 => kernel_rfl); (case hs_151 => kernel_rfl); (case ho_151 => (simp only [List.getElem?_toArray, List.getElem?_cons_succ, List.getElem?_cons_zero]; rfl)); (case hS_151 => assumption); (case hQ_151 => exact fun _ _ _ h => h); (case hy_151 => (refine Or.inl ⟨by rfl, ?_⟩; (intro w hSw; (try dsimp only at hSw); go_simp) <;> with_reducible rfl)); (try simp only [Act.put, List.setIfInBounds_toArray, List.set_cons_zero, List.set_cons_succ]))
      refine wpAnyH_ready (rs := [9, 23]) (by kernel_rfl) (by simp) ?_
      refine AllReadyH.cons (o := ?oo152_0) ?ho152_0 ?hs152_0 (AllReadyH.cons (o := ?oo152_1) ?ho152_1 ?hs152_1 AllReadyH.nil)
      case ho152_0 => (simp only [List.getElem?_toArray, List.getElem?_cons_succ, List.getElem?_cons_zero]; rfl)
      case ho152_1 => (simp only [List.getElem?_toArray, List.getElem?_cons_succ, List.getElem?_cons_zero]; rfl)
      case hs152_0 =>
        intro K hK; go_simp; go_at_call 42; refine (refField q 8 _ (by omega) (by omega) (by decide)).mono ?_; rintro en wn ⟨rfl, hu⟩
        have x0 := hu.cell x0 fun h => h; have x1 := hu.cell x1 fun h => h; have x4 := hu.cell x4 fun h => h
        have hU := (by first | exact hU.trans hu fun _ _ h => h | exact (hU.then_drew).trans hu fun _ _ h => h : Upd Non w wn)
        try have hB := hB.non hu
        clear hu
        try go_wp2_with fail
        refine hK.out _ _ ?_ (fun hHeld => ?_)
        · (try dsimp only); first | exact ⟨x0, x1, x4⟩ | exact ⟨(Upd.alloc Non _ _).cell x0 fun h => h, (Upd.alloc Non _ _).cell x1 fun h => h, (Upd.alloc Non _ _).cell x4 fun h => h⟩
        clear hK K
        try simp only [Act.put, List.setIfInBounds_toArray, List.set_cons_zero, List.set_cons_succ]
        (refine wpAnyH_take (i := 10) (oi := ?oi_153) (v := ?v_153) ?ho_153 ?hs_153 ?hf_153 ?hr_153 ?hQ_153 ?hy_153 ?hS_153 ?rest_153; (case hr_153 => kernel_rfl); (case hf_153 => kernel_rfl); (case hs_153 => kernel_rfl); (case ho_153 => (simp only [List.getElem?_toArray, List.getElem?_cons_succ, List.getElem?_cons_zero]; rfl)); (case hS_153 => assumption); (case hQ_153 => exact fun _ _ _ h => h); (case hy_153 => (refine Or.inl ⟨by rfl, ?_⟩; (intro w hSw; (try dsimp only at hSw); go_simp) <;> with_reducible rfl)); (try simp only [Act.put, List.setIfInBounds_toArray, List.set_cons_zero, List.set_cons_succ]))
        refine wpAnyH_ready (rs := [14, 23]) (by kernel_rfl) (by simp) ?_
        refine AllReadyH.cons (o := ?oo154_0) ?ho154_0 ?hs154_0 (AllReadyH.cons (o := ?oo154_1) ?ho154_1 ?hs154_1 AllReadyH.nil)
        case ho154_0 => (simp only [List.getElem?_toArray, List.getElem?_cons_succ, List.getElem?_cons_zero]; rfl)
        case ho154_1 => (simp only [List.getElem?_toArray, List.getElem?_cons_succ, List.getElem?_cons_zero]; rfl)
        case hs154_0 =>
          intro K hK; go_simp; go_at_call 42; refine (refField (d.length : Int) 2 _ (by omega) (by omega) (by decide)).mono ?_; rintro en wn ⟨rfl, hu⟩
          have x0 := hu.cell x0 fun h => h; have x1 := hu.cell x1 fun h => h; have x4 := hu.cell x4 fun h => h
          have hU := (by first | exact hU.trans hu fun _ _ h => h | exact (hU.then_drew).trans hu fun _ _ h => h : Upd Non w wn)
          try have hB := hB.non hu
          clear hu
          try go_wp2_with fail
          refine hK.out _ _ ?_ (fun hHeld => ?_)
          · (try dsimp only); first | exact ⟨x0, x1, x4⟩ | exact ⟨(Upd.alloc Non _ _).cell x0 fun h => h, (Upd.alloc Non _ _).cell x1 fun h => h, (Upd.alloc Non _ _).cell x4 fun h => h⟩
          clear hK K
          try simp only [Act.put, List.setIfInBounds_toArray, List.set_cons_zero, List.set_cons_succ]
          (refine wpAnyH_take (i := 15) (oi := ?oi_155) (v := ?v_155) ?ho_155 ?hs_155 ?hf_155 ?hr_155 ?hQ_155 ?hy_155 ?hS_155 ?rest_155; (case hr_155 => kernel_rfl); (case hf_155 => kernel_rfl); (case hs_155 => kernel_rfl); (case ho_155 => (simp only [List.getElem?_toArray, List.getElem?_cons_succ, List.getElem?_cons_zero]; rfl)); (case hS_155 => assumption); (case hQ_155 => exact fun _ _ _ h => h); (case hy_155 => (refine Or.inl ⟨by rfl, ?_⟩; (intro w hSw; (try dsimp only at hSw); go_simp) <;> with_reducible rfl)); (try simp only [Act.put, List.setIfInBounds_toArray, List.set_cons_zero, List.set_cons_succ]))
          (refine wpAnyH_take (i := 18) (oi := ?oi_156) (v := ?v_156) ?ho_156 ?hs_156 ?hf_156 ?hr_156 ?hQ_156 ?hy_156 ?hS_156 ?rest_156; (case hr_156 => kernel_rfl); (case hf_156 => kernel_rfl); (case hs_156 => kernel_rfl); (case ho_156 => (simp only [List.getElem?_toArray, List.getElem?_cons_succ, List.getElem?_cons_zero]; rfl)); (case hS_156 => assumption); (case hQ_156 => exact fun _ _ _ h => h); (case hy_156 => (refine Or.inl ⟨by rfl, ?_⟩; (intro w hSw; (try dsimp only at hSw); go_simp) <;> with_reducible rfl)); (try simp only [Act.put, List.setIfInBounds_toArray, List.set_cons_zero, List.set_cons_succ]))
          refine wpAnyH_ready (rs := [23]) (by kernel_rfl) (by simp) ?_
          refine AllReadyH.cons (o := ?oo157_0) ?ho157_0 ?hs157_0 AllReadyH.nil
          case ho157_0 => (simp only [List.getElem?_toArray, List.getElem?_cons_succ, List.getElem?_cons_zero]; rfl)
          case hs157_0 =>
            intro K hK; have hmk := hmk0; go_simp; clear hmk
            try go_wp2_with fail
            refine hK.out _ _ ?_ (fun hHeld => ?_)
            · (try dsimp only); exact ⟨(Upd.alloc Non _ _).cell x0 fun h => h, (Upd.alloc Non _ _).cell x1 fun h => h, (Upd.alloc Non _ _).cell x4 fun h => h⟩
            clear hK K
            try simp only [Act.put, List.setIfInBounds_toArray, List.set_cons_zero, List.set_cons_succ]
            obtain ⟨hB, hU, x0, x1, x4⟩ := made_noughts hU x0 x1 x4 5 (108 - d.length) (by omega)
            refine wpAnyH_ready (rs := [24]) (by kernel_rfl) (by simp) ?_
            refine AllReadyH.cons (o := ?oo158_0) ?ho158_0 ?hs158_0 AllReadyH.nil
            case ho158_0 => (simp only [List.getElem?_toArray, List.getElem?_cons_succ, List.getElem?_cons_zero]; rfl)
            case hs158_0 =>
              intro K hK; have hst := run_str (P := Try.prog) _ 42 9 5 Try.underlying42 Try.underlying5 Try.underlying9 _ _ hB; go_simp; clear hst
              try go_wp2_with fail
              refine hK.out _ _ ?_ (fun hHeld => ?_)
              · (try dsimp only); first | exact ⟨x0, x1, x4⟩ | exact ⟨(Upd.alloc Non _ _).cell x0 fun h => h, (Upd.alloc Non _ _).cell x1 fun h => h, (Upd.alloc Non _ _).cell x4 fun h => h⟩
              clear hK K
              try simp only [Act.put, List.setIfInBounds_toArray, List.set_cons_zero, List.set_cons_succ]
              (refine wpAnyH_take (i := 25) (oi := ?oi_159) (v := ?v_159) ?ho_159 ?hs_159 ?hf_159 ?hr_159 ?hQ_159 ?hy_159 ?hS_159 ?rest_159; (case hr_159 => kernel_rfl); (case hf_159 => kernel_rfl); (case hs_159 => kernel_rfl); (case ho_159 => (simp only [List.getElem?_toArray, List.getElem?_cons_succ, List.getElem?_cons_zero]; rfl)); (case hS_159 => assumption); (case hQ_159 => exact fun _ _ _ h => h); (case hy_159 => (refine Or.inl ⟨by rfl, ?_⟩; (intro w hSw; (try dsimp only at hSw); go_simp) <;> with_reducible rfl)); (try simp only [Act.put, List.setIfInBounds_toArray, List.set_cons_zero, List.set_cons_succ]))
              (refine wpAnyH_take (i := 26) (oi := ?oi_160) (v := ?v_160) ?ho_160 ?hs_160 ?hf_160 ?hr_160 ?hQ_160 ?hy_160 ?hS_160 ?rest_160; (case hr_160 => kernel_rfl); (case hf_160 => kernel_rfl); (case hs_160 => kernel_rfl); (case ho_160 => (simp only [List.getElem?_toArray, List.getElem?_cons_succ, List.getElem?_cons_zero]; rfl)); (case hS_160 => assumption); (case hQ_160 => exact fun _ _ _ h => h); (case hy_160 => (refine Or.inl ⟨by rfl, ?_⟩; (intro w hSw; (try dsimp only at hSw); go_simp) <;> with_reducible rfl)); (try simp only [Act.put, List.setIfInBounds_toArray, List.set_cons_zero, List.set_cons_succ]))
              refine wpAnyH_done (by kernel_rfl) ?_ _
              try rw [hstr]
              go_wp2_with fail
              refine (refSum BB _ (by have := hBBl.out; omega)).mono ?_
              rintro en wa ⟨rfl, hua⟩
              rw [hsm.out]
              go_wp2_with fail
              refine (refField (sm : Int) 4 _ (by omega) (by omega) (by decide)).mono ?_
              rintro en wb ⟨rfl, hub⟩
              have hUb := (hU.trans hua fun _ _ h => h).trans hub fun _ _ h => h
              go_wp2_with fail
              go_ret
              refine ⟨?_, hUb⟩
              rw [app_str, hslot.out]
              simp
        case hs154_1 =>
          intro K hK; have hmk := hmk0; go_simp; clear hmk
          try go_wp2_with fail
          refine hK.out _ _ ?_ (fun hHeld => ?_)
          · (try dsimp only); exact ⟨(Upd.alloc Non _ _).cell x0 fun h => h, (Upd.alloc Non _ _).cell x1 fun h => h, (Upd.alloc Non _ _).cell x4 fun h => h⟩
          clear hK K
          try simp only [Act.put, List.setIfInBounds_toArray, List.set_cons_zero, List.set_cons_succ]
          obtain ⟨hB, hU, x0, x1, x4⟩ := made_noughts hU x0 x1 x4 5 (108 - d.length) (by omega)
          refine wpAnyH_ready (rs := [14, 24]) (by kernel_rfl) (by simp) ?_
          refine AllReadyH.cons (o := ?oo161_0) ?ho161_0 ?hs161_0 (AllReadyH.cons (o := ?oo161_1) ?ho161_1 ?hs161_1 AllReadyH.nil)
          case ho161_0 => (simp only [List.getElem?_toArray, List.getElem?_cons_succ, List.getElem?_cons_zero]; rfl)
          case ho161_1 => (simp only [List.getElem?_toArray, List.getElem?_cons_succ, List.getElem?_cons_zero]; rfl)
          case hs161_0 =>
            intro K hK; go_simp; go_at_call 42; refine (refField (d.length : Int) 2 _ (by omega) (by omega) (by decide)).mono ?_; rintro en wn ⟨rfl, hu⟩
            have x0 := hu.cell x0 fun h => h; have x1 := hu.cell x1 fun h => h; have x4 := hu.cell x4 fun h => h
            have hU := (by first | exact hU.trans hu fun _ _ h => h | exact (hU.then_drew).trans hu fun _ _ h => h : Upd Non w wn)
            try have hB := hB.non hu
            clear hu
            try go_wp2_with fail
            refine hK.out _ _ ?_ (fun hHeld => ?_)
            · (try dsimp only); first | exact ⟨x0, x1, x4⟩ | exact ⟨(Upd.alloc Non _ _).cell x0 fun h => h, (Upd.alloc Non _ _).cell x1 fun h => h, (Upd.alloc Non _ _).cell x4 fun h => h⟩
            clear hK K
            try simp only [Act.put, List.setIfInBounds_toArray, List.set_cons_zero, List.set_cons_succ]
            (refine wpAnyH_take (i := 15) (oi := ?oi_162) (v := ?v_162) ?ho_162 ?hs_162 ?hf_162 ?hr_162 ?hQ_162 ?hy_162 ?hS_162 ?rest_162; (case hr_162 => kernel_rfl); (case hf_162 => kernel_rfl); (case hs_162 => kernel_rfl); (case ho_162 => (simp only [List.getElem?_toArray, List.getElem?_cons_succ, List.getElem?_cons_zero]; rfl)); (case hS_162 => assumption); (case hQ_162 => exact fun _ _ _ h => h); (case hy_162 => (refine Or.inl ⟨by rfl, ?_⟩; (intro w hSw; (try dsimp only at hSw); go_simp) <;> with_reducible rfl)); (try simp only [Act.put, List.setIfInBounds_toArray, List.set_cons_zero, List.set_cons_succ]))
            (refine wpAnyH_take (i := 18) (oi := ?oi_163) (v := ?v_163) ?ho_163 ?hs_163 ?hf_163 ?hr_163 ?hQ_163 ?hy_163 ?hS_163 ?rest_163; (case hr_163 => kernel_rfl); (case hf_163 => kernel_rfl); (case hs_163 => kernel_rfl); (case ho_163 => (simp only [List.getElem?_toArray, List.getElem?_cons_succ, List.getElem?_cons_zero]; rfl)); (case hS_163 => assumption); (case hQ_163 => exact fun _ _ _ h => h); (case hy_163 => (refine Or.inl ⟨by rfl, ?_⟩; (intro w hSw; (try dsimp only at hSw); go_simp) <;> with_reducible rfl)); (try simp only [Act.put, List.setIfInBounds_toArray, List.set_cons_zero, List.set_cons_succ]))
            refine wpAnyH_ready (rs := [24]) (by kernel_rfl) (by simp) ?_
            refine AllReadyH.cons (o := ?oo164_0) ?ho164_0 ?hs164_0 AllReadyH.nil
            case ho164_0 => (simp only [List.getElem?_toArray, List.getElem?_cons_succ, List.getElem?_cons_zero]; rfl)
            case hs164_0 =>
              intro K hK; have hst := run_str (P := Try.prog) _ 42 9 5 Try.underlying42 Try.underlying5 Try.underlying9 _ _ hB; go_simp; clear hst
              try go_wp2_with fail
              refine hK.out _ _ ?_ (fun hHeld => ?_)
              · (try dsimp only); first | exact ⟨x0, x1, x4⟩ | exact ⟨(Upd.alloc Non _ _).cell x0 fun h => h, (Upd.alloc Non _ _).cell x1 fun h => h, (Upd.alloc Non _ _).cell x4 fun h => h⟩
              clear hK K
              try simp only [Act.put, List.setIfInBounds_toArray, List.set_cons_zero, List.set_cons_succ]
              (refine wpAnyH_take (i := 25) (oi := ?oi_165) (v := ?v_165) ?ho_165 ?hs_165 ?hf_165 ?hr_165 ?hQ_165 ?hy_165 ?hS_165 ?rest_165; (case hr_165 => kernel_rfl); (case hf_165 => kernel_rfl); (case hs_165 => kernel_rfl); (case ho_165 => (simp only [List.getElem?_toArray, List.getElem?_cons_succ, List.getElem?_cons_zero]; rfl)); (case hS_165 => assumption); (case hQ_165 => exact fun _ _ _ h => h); (case hy_165 => (refine Or.inl ⟨by rfl, ?_⟩; (intro w hSw; (try dsimp only at hSw); go_simp) <;> with_reducible rfl)); (try simp only [Act.put, List.setIfInBounds_toArray, List.set_cons_zero, List.set_cons_succ]))
              (refine wpAnyH_take (i := 26) (oi := ?oi_166) (v := ?v_166) ?ho_166 ?hs_166 ?hf_166 ?hr_166 ?hQ_166 ?hy_166 ?hS_166 ?rest_166; (case hr_166 => kernel_rfl); (case hf_166 => kernel_rfl); (case hs_166 => kernel_rfl); (case ho_166 => (simp only [List.getElem?_toArray, List.getElem?_cons_succ, List.getElem?_cons_zero]; rfl)); (case hS_166 => assumption); (case hQ_166 => exact fun _ _ _ h => h); (case hy_166 => (refine Or.inl ⟨by rfl, ?_⟩; (intro w hSw; (try dsimp only at hSw); go_simp) <;> with_reducible rfl)); (try simp only [Act.put, List.setIfInBounds_toArray, List.set_cons_zero, List.set_cons_succ]))
              refine wpAnyH_done (by kernel_rfl) ?_ _
              try rw [hstr]
              go_wp2_with fail
              refine (refSum BB _ (by have := hBBl.out; omega)).mono ?_
              rintro en wa ⟨rfl, hua⟩
              rw [hsm.out]
              go_wp2_with fail
              refine (refField (sm : Int) 4 _ (by omega) (by omega) (by decide)).mono ?_
              rintro en wb ⟨rfl, hub⟩
              have hUb := (hU.trans hua fun _ _ h => h).trans hub fun _ _ h => h
              go_wp2_with fail
              go_ret
              refine ⟨?_, hUb⟩
              rw [app_str, hslot.out]
              simp
          case hs161_1 =>
            intro K hK; have hst := run_str (P := Try.prog) _ 42 9 5 Try.underlying42 Try.underlying5 Try.underlying9 _ _ hB; go_simp; clear hst
            try go_wp2_with fail
            refine hK.out _ _ ?_ (fun hHeld => ?_)
            · (try dsimp only); first | exact ⟨x0, x1, x4⟩ | exact ⟨(Upd.alloc Non _ _).cell x0 fun h => h, (Upd.alloc Non _ _).cell x1 fun h => h, (Upd.alloc Non _ _).cell x4 fun h => h⟩
            clear hK K
            try simp only [Act.put, List.setIfInBounds_toArray, List.set_cons_zero, List.set_cons_succ]
            refine wpAnyH_ready (rs := [14]) (by kernel_rfl) (by simp) ?_
            refine AllReadyH.cons (o := ?oo167_0) ?ho167_0 ?hs167_0 AllReadyH.nil
            case ho167_0 => (simp only [List.getElem?_toArray, List.getElem?_cons_succ, List.getElem?_cons_zero]; rfl)
            case hs167_0 =>
              intro K hK; go_simp; go_at_call 42; refine (refField (d.length : Int) 2 _ (by omega) (by omega) (by decide)).mono ?_; rintro en wn ⟨rfl, hu⟩
              have x0 := hu.cell x0 fun h => h; have x1 := hu.cell x1 fun h => h; have x4 := hu.cell x4 fun h => h
              have hU := (by first | exact hU.trans hu fun _ _ h => h | exact (hU.then_drew).trans hu fun _ _ h => h : Upd Non w wn)
              try have hB := hB.non hu
              clear hu
              try go_wp2_with fail
              refine hK.out _ _ ?_ (fun hHeld => ?_)
              · (try dsimp only); first | exact ⟨x0, x1, x4⟩ | exact ⟨(Upd.alloc Non _ _).cell x0 fun h => h, (Upd.alloc Non _ _).cell x1 fun h => h, (Upd.alloc Non _ _).cell x4 fun h => h⟩
              clear hK K
              try simp only [Act.put, List.setIfInBounds_toArray, List.set_cons_zero, List.set_cons_succ]
              (refine wpAnyH_take (i := 15) (oi := ?oi_168) (v := ?v_168) ?ho_168 ?hs_168 ?hf_168 ?hr_168 ?hQ_168 ?hy_168 ?hS_168 ?rest_168; (case hr_168 => kernel_rfl); (case hf_168 => kernel_rfl); (case hs_168 => kernel_rfl); (case ho_168 => (simp only [List.getElem?_toArray, List.getElem?_cons_succ, List.getElem?_cons_zero]; rfl)); (case hS_168 => assumption); (case hQ_168 => exact fun _ _ _ h => h); (case hy_168 => (refine Or.inl ⟨by rfl, ?_⟩; (intro w hSw; (try dsimp only at hSw); go_simp) <;> with_reducible rfl)); (try simp only [Act.put, List.setIfInBounds_toArray, List.set_cons_zero, List.set_cons_succ]))
              (refine wpAnyH_take (i := 18) (oi := ?oi_169) (v := ?v_169) ?ho_169 ?hs_169 ?hf_169 ?hr_169 ?hQ_169 ?hy_169 ?hS_169 ?rest_169; (case hr_169 => kernel_rfl); (case hf_169 => kernel_rfl); (case hs_169 => kernel_rfl); (case ho_169 => (simp only [List.getElem?_toArray, List.getElem?_cons_succ, List.getElem?_cons_zero]; rfl)); (case hS_169 => assumption); (case hQ_169 => exact fun _ _ _ h => h); (case hy_169 => (refine Or.inl ⟨by rfl, ?_⟩; (intro w hSw; (try dsimp only at hSw); go_simp) <;> with_reducible rfl)); (try simp only [Act.put, List.setIfInBounds_toArray, List.set_cons_zero, List.set_cons_succ]))
              (refine wpAnyH_take (i := 25) (oi := ?oi_170) (v := ?v_170) ?ho_170 ?hs_170 ?hf_170 ?hr_170 ?hQ_170 ?hy_170 ?hS_170 ?rest_170; (case hr_170 => kernel_rfl); (case hf_170 => kernel_rfl); (case hs_170 => kernel_rfl); (case ho_170 => (simp only [List.getElem?_toArray, List.getElem?_cons_succ, List.getElem?_cons_zero]; rfl)); (case hS_170 => assumption); (case hQ_170 => exact fun _ _ _ h => h); (case hy_170 => (refine Or.inl ⟨by rfl, ?_⟩; (intro w hSw; (try dsimp only at hSw); go_simp) <;> with_reducible rfl)); (try simp only [Act.put, List.setIfInBounds_toArray, List.set_cons_zero, List.set_cons_succ]))
              (refine wpAnyH_take (i := 26) (oi := ?oi_171) (v := ?v_171) ?ho_171 ?hs_171 ?hf_171 ?hr_171 ?hQ_171 ?hy_171 ?hS_171 ?rest_171; (case hr_171 => kernel_rfl); (case hf_171 => kernel_rfl); (case hs_171 => kernel_rfl); (case ho_171 => (simp only [List.getElem?_toArray, List.getElem?_cons_succ, List.getElem?_cons_zero]; rfl)); (case hS_171 => assumption); (case hQ_171 => exact fun _ _ _ h => h); (case hy_171 => (refine Or.inl ⟨by rfl, ?_⟩; (intro w hSw; (try dsimp only at hSw); go_simp) <;> with_reducible rfl)); (try simp only [Act.put, List.setIfInBounds_toArray, List.set_cons_zero, List.set_cons_succ]))
              refine wpAnyH_done (by kernel_rfl) ?_ _
              try rw [hstr]
              go_wp2_with fail
              refine (refSum BB _ (by have := hBBl.out; omega)).mono ?_
              rintro en wa ⟨rfl, hua⟩
              rw [hsm.out]
              go_wp2_with fail
              refine (refField (sm : Int) 4 _ (by omega) (by omega) (by decide)).mono ?_
              rintro en wb ⟨rfl, hub⟩
              have hUb := (hU.trans hua fun _ _ h => h).trans hub fun _ _ h => h
              go_wp2_with fail
              go_ret
              refine ⟨?_, hUb⟩
              rw [app_str, hslot.out]
              simp
      case hs152_1 =>
        intro K hK; have hmk := hmk0; go_simp; clear hmk
        try go_wp2_with fail
        refine hK.out _ _ ?_ (fun hHeld => ?_)
        · (try dsimp only); exact ⟨(Upd.alloc Non _ _).cell x0 fun h => h, (Upd.alloc Non _ _).cell x1 fun h => h, (Upd.alloc Non _ _).cell x4 fun h => h⟩
        clear hK K
        try simp only [Act.put, List.setIfInBounds_toArray, List.set_cons_zero, List.set_cons_succ]
        obtain ⟨hB, hU, x0, x1, x4⟩ := made_noughts hU x0 x1 x4 5 (108 - d.length) (by omega)
        refine wpAnyH_ready (rs := [9, 24]) (by kernel_rfl) (by simp) ?_
        refine AllReadyH.cons (o := ?oo172_0) ?ho172_0 ?hs172_0 (AllReadyH.cons (o := ?oo172_1) ?ho172_1 ?hs172_1 AllReadyH.nil)
        case ho172_0 => (simp only [List.getElem?_toArray, List.getElem?_cons_succ, List.getElem?_cons_zero]; rfl)
        case ho172_1 => (simp only [List.getElem?_toArray, List.getElem?_cons_succ, List.getElem?_cons_zero]; rfl)
        case hs172_0 =>
          intro K hK; go_simp; go_at_call 42; refine (refField q 8 _ (by omega) (by omega) (by decide)).mono ?_; rintro en wn ⟨rfl, hu⟩
          have x0 := hu.cell x0 fun h => h; have x1 := hu.cell x1 fun h => h; have x4 := hu.cell x4 fun h => h
          have hU := (by first | exact hU.trans hu fun _ _ h => h | exact (hU.then_drew).trans hu fun _ _ h => h : Upd Non w wn)
          try have hB := hB.non hu
          clear hu
          try go_wp2_with fail
          refine hK.out _ _ ?_ (fun hHeld => ?_)
          · (try dsimp only); first | exact ⟨x0, x1, x4⟩ | exact ⟨(Upd.alloc Non _ _).cell x0 fun h => h, (Upd.alloc Non _ _).cell x1 fun h => h, (Upd.alloc Non _ _).cell x4 fun h => h⟩
          clear hK K
          try simp only [Act.put, List.setIfInBounds_toArray, List.set_cons_zero, List.set_cons_succ]
          (refine wpAnyH_take (i := 10) (oi := ?oi_173) (v := ?v_173) ?ho_173 ?hs_173 ?hf_173 ?hr_173 ?hQ_173 ?hy_173 ?hS_173 ?rest_173; (case hr_173 => kernel_rfl); (case hf_173 => kernel_rfl); (case hs_173 => kernel_rfl); (case ho_173 => (simp only [List.getElem?_toArray, List.getElem?_cons_succ, List.getElem?_cons_zero]; rfl)); (case hS_173 => assumption); (case hQ_173 => exact fun _ _ _ h => h); (case hy_173 => (refine Or.inl ⟨by rfl, ?_⟩; (intro w hSw; (try dsimp only at hSw); go_simp) <;> with_reducible rfl)); (try simp only [Act.put, List.setIfInBounds_toArray, List.set_cons_zero, List.set_cons_succ]))
          refine wpAnyH_ready (rs := [14, 24]) (by kernel_rfl) (by simp) ?_
          refine AllReadyH.cons (o := ?oo174_0) ?ho174_0 ?hs174_0 (AllReadyH.cons (o := ?oo174_1) ?ho174_1 ?hs174_1 AllReadyH.nil)
          case ho174_0 => (simp only [List.getElem?_toArray, List.getElem?_cons_succ, List.getElem?_cons_zero]; rfl)
          case ho174_1 => (simp only [List.getElem?_toArray, List.getElem?_cons_succ, List.getElem?_cons_zero]; rfl)
          case hs174_0 =>
            intro K hK; go_simp; go_at_call 42; refine (refField (d.length : Int) 2 _ (by omega) (by omega) (by decide)).mono ?_; rintro en wn ⟨rfl, hu⟩
            have x0 := hu.cell x0 fun h => h; have x1 := hu.cell x1 fun h => h; have x4 := hu.cell x4 fun h => h
            have hU := (by first | exact hU.trans hu fun _ _ h => h | exact (hU.then_drew).trans hu fun _ _ h => h : Upd Non w wn)
            try have hB := hB.non hu
            clear hu
            try go_wp2_with fail
            refine hK.out _ _ ?_ (fun hHeld => ?_)
            · (try dsimp only); first | exact ⟨x0, x1, x4⟩ | exact ⟨(Upd.alloc Non _ _).cell x0 fun h => h, (Upd.alloc Non _ _).cell x1 fun h => h, (Upd.alloc Non _ _).cell x4 fun h => h⟩
            clear hK K
            try simp only [Act.put, List.setIfInBounds_toArray, List.set_cons_zero, List.set_cons_succ]
            (refine wpAnyH_take (i := 15) (oi := ?oi_175) (v := ?v_175) ?ho_175 ?hs_175 ?hf_175 ?hr_175 ?hQ_175 ?hy_175 ?hS_175 ?rest_175; (case hr_175 => kernel_rfl); (case hf_175 => kernel_rfl); (case hs_175 => kernel_rfl); (case ho_175 => (simp only [List.getElem?_toArray, List.getElem?_cons_succ, List.getElem?_cons_zero]; rfl)); (case hS_175 => assumption); (case hQ_175 => exact fun _ _ _ h => h); (case hy_175 => (refine Or.inl ⟨by rfl, ?_⟩; (intro w hSw; (try dsimp only at hSw); go_simp) <;> with_reducible rfl)); (try simp only [Act.put, List.setIfInBounds_toArray, List.set_cons_zero, List.set_cons_succ]))
            (refine wpAnyH_take (i := 18) (oi := ?oi_176) (v := ?v_176) ?ho_176 ?hs_176 ?hf_176 ?hr_176 ?hQ_176 ?hy_176 ?hS_176 ?rest_176; (case hr_176 => kernel_rfl); (case hf_176 => kernel_rfl); (case hs_176 => kernel_rfl); (case ho_176 => (simp only [List.getElem?_toArray, List.getElem?_cons_succ, List.getElem?_cons_zero]; rfl)); (case hS_176 => assumption); (case hQ_176 => exact fun _ _ _ h => h); (case hy_176 => (refine Or.inl ⟨by rfl, ?_⟩; (intro w hSw; (try dsimp only at hSw); go_simp) <;> with_reducible rfl)); (try simp only [Act.put, List.setIfInBounds_toArray, List.set_cons_zero, List.set_cons_succ]))
            refine wpAnyH_ready (rs := [24]) (by kernel_rfl) (by simp) ?_
            refine AllReadyH.cons (o := ?oo177_0) ?ho177_0 ?hs177_0 AllReadyH.nil
            case ho177_0 => (simp only [List.getElem?_toArray, List.getElem?_cons_succ, List.getElem?_cons_zero]; rfl)
            case hs177_0 =>
              intro K hK; have hst := run_str (P := Try.prog) _ 42 9 5 Try.underlying42 Try.underlying5 Try.underlying9 _ _ hB; go_simp; clear hst
              try go_wp2_with fail
              refine hK.out _ _ ?_ (fun hHeld => ?_)
              · (try dsimp only); first | exact ⟨x0, x1, x4⟩ | exact ⟨(Upd.alloc Non _ _).cell x0 fun h => h, (Upd.alloc Non _ _).cell x1 fun h => h, (Upd.alloc Non _ _).cell x4 fun h => h⟩
              clear hK K
              try simp only [Act.put, List.setIfInBounds_toArray, List.set_cons_zero, List.set_cons_succ]
              (refine wpAnyH_take (i := 25) (oi := ?oi_178) (v := ?v_178) ?ho_178 ?hs_178 ?hf_178 ?hr_178 ?hQ_178 ?hy_178 ?hS_178 ?rest_178; (case hr_178 => kernel_rfl); (case hf_178 => kernel_rfl); (case hs_178 => kernel_rfl); (case ho_178 => (simp only [List.getElem?_toArray, List.getElem?_cons_succ, List.getElem?_cons_zero]; rfl)); (case hS_178 => assumption); (case hQ_178 => exact fun _ _ _ h => h); (case hy_178 => (refine Or.inl ⟨by rfl, ?_⟩; (intro w hSw; (try dsimp only at hSw); go_simp) <;> with_reducible rfl)); (try simp only [Act.put, List.setIfInBounds_toArray, List.set_cons_zero, List.set_cons_succ]))
              (refine wpAnyH_take (i := 26) (oi := ?oi_179) (v := ?v_179) ?ho_179 ?hs_179 ?hf_179 ?hr_179 ?hQ_179 ?hy_179 ?hS_179 ?rest_179; (case hr_179 => kernel_rfl); (case hf_179 => kernel_rfl); (case hs_179 => kernel_rfl); (case ho_179 => (simp only [List.getElem?_toArray, List.getElem?_cons_succ, List.getElem?_cons_zero]; rfl)); (case hS_179 => assumption); (case hQ_179 => exact fun _ _ _ h => h); (case hy_179 => (refine Or.inl ⟨by rfl, ?_⟩; (intro w hSw; (try dsimp only at hSw); go_simp) <;> with_reducible rfl)); (try simp only [Act.put, List.setIfInBounds_toArray, List.set_cons_zero, List.set_cons_succ]))
              refine wpAnyH_done (by kernel_rfl) ?_ _
              try rw [hstr]
              go_wp2_with fail
              refine (refSum BB _ (by have := hBBl.out; omega)).mono ?_
              rintro en wa ⟨rfl, hua⟩
              rw [hsm.out]
              go_wp2_with fail
              refine (refField (sm : Int) 4 _ (by omega) (by omega) (by decide)).mono ?_
              rintro en wb ⟨rfl, hub⟩
              have hUb := (hU.trans hua fun _ _ h => h).trans hub fun _ _ h => h
              go_wp2_with fail
              go_ret
              refine ⟨?_, hUb⟩
              rw [app_str, hslot.out]
              simp
          case hs174_1 =>
            intro K hK; have hst := run_str (P := Try.prog) _ 42 9 5 Try.underlying42 Try.underlying5 Try.underlying9 _ _ hB; go_simp; clear hst
            try go_wp2_with fail
            refine hK.out _ _ ?_ (fun hHeld => ?_)
            · (try dsimp only); first | exact ⟨x0, x1, x4⟩ | exact ⟨(Upd.alloc Non _ _).cell x0 fun h => h, (Upd.alloc Non _ _).cell x1 fun h => h, (Upd.alloc Non _ _).cell x4 fun h => h⟩
            clear hK K
            try simp only [Act.put, List.setIfInBounds_toArray, List.set_cons_zero, List.set_cons_succ]
            refine wpAnyH_ready (rs := [14]) (by kernel_rfl) (by simp) ?_
            refine AllReadyH.cons (o := ?oo180_0) ?ho180_0 ?hs180_0 AllReadyH.nil
            case ho180_0 => (simp only [List.getElem?_toArray, List.getElem?_cons_succ, List.getElem?_cons_zero]; rfl)
            case hs180_0 =>
              intro K hK; go_simp; go_at_call 42; refine (refField (d.length : Int) 2 _ (by omega) (by omega) (by decide)).mono ?_; rintro en wn ⟨rfl, hu⟩
              have x0 := hu.cell x0 fun h => h; have x1 := hu.cell x1 fun h => h; have x4 := hu.cell x4 fun h => h
              have hU := (by first | exact hU.trans hu fun _ _ h => h | exact (hU.then_drew).trans hu fun _ _ h => h : Upd Non w wn)
              try have hB := hB.non hu
              clear hu
              try go_wp2_with fail
              refine hK.out _ _ ?_ (fun hHeld => ?_)
              · (try dsimp only); first | exact ⟨x0, x1, x4⟩ | exact ⟨(Upd.alloc Non _ _).cell x0 fun h => h, (Upd.alloc Non _ _).cell x1 fun h => h, (Upd.alloc Non _ _).cell x4 fun h => h⟩
              clear hK K
              try simp only [Act.put, List.setIfInBounds_toArray, List.set_cons_zero, List.set_cons_succ]
              (refine wpAnyH_take (i := 15) (oi := ?oi_181) (v := ?v_181) ?ho_181 ?hs_181 ?hf_181 ?hr_181 ?hQ_181 ?hy_181 ?hS_181 ?rest_181; (case hr_181 => kernel_rfl); (case hf_181 => kernel_rfl); (case hs_181 => kernel_rfl); (case ho_181 => (simp only [List.getElem?_toArray, List.getElem?_cons_succ, List.getElem?_cons_zero]; rfl)); (case hS_181 => assumption); (case hQ_181 => exact fun _ _ _ h => h); (case hy_181 => (refine Or.inl ⟨by rfl, ?_⟩; (intro w hSw; (try dsimp only at hSw); go_simp) <;> with_reducible rfl)); (try simp only [Act.put, List.setIfInBounds_toArray, List.set_cons_zero, List.set_cons_succ]))
              (refine wpAnyH_take (i := 18) (oi := ?oi_182) (v := ?v_182) ?ho_182 ?hs_182 ?hf_182 ?hr_182 ?hQ_182 ?hy_182 ?hS_182 ?rest_182; (case hr_182 => kernel_rfl); (case hf_182 => kernel_rfl); (case hs_182 => kernel_rfl); (case ho_182 => (simp only [List.getElem?_toArray, List.getElem?_cons_succ, List.getElem?_cons_zero]; rfl)); (case hS_182 => assumption); (case hQ_182 => exact fun _ _ _ h => h); (case hy_182 => (refine Or.inl ⟨by rfl, ?_⟩; (intro w hSw; (try dsimp only at hSw); go_simp) <;> with_reducible rfl)); (try simp only [Act.put, List.setIfInBounds_toArray, List.set_cons_zero, List.set_cons_succ]))
              (refine wpAnyH_take (i := 25) (oi := ?oi_183) (v := ?v_183) ?ho_183 ?hs_183 ?hf_183 ?hr_183 ?hQ_183 ?hy_183 ?hS_183 ?rest_183; (case hr_183 => kernel_rfl); (case hf_183 => kernel_rfl); (case hs_183 => kernel_rfl); (case ho_183 => (simp only [List.getElem?_toArray, List.getElem?_cons_succ, List.getElem?_cons_zero]; rfl)); (case hS_183 => assumption); (case hQ_183 => exact fun _ _ _ h => h); (case hy_183 => (refine Or.inl ⟨by rfl, ?_⟩; (intro w hSw; (try dsimp only at hSw); go_simp) <;> with_reducible rfl)); (try simp only [Act.put, List.setIfInBounds_toArray, List.set_cons_zero, List.set_cons_succ]))
              (refine wpAnyH_take (i := 26) (oi := ?oi_184) (v := ?v_184) ?ho_184 ?hs_184 ?hf_184 ?hr_184 ?hQ_184 ?hy_184 ?hS_184 ?rest_184; (case hr_184 => kernel_rfl); (case hf_184 => kernel_rfl); (case hs_184 => kernel_rfl); (case ho_184 => (simp only [List.getElem?_toArray, List.getElem?_cons_succ, List.getElem?_cons_zero]; rfl)); (case hS_184 => assumption); (case hQ_184 => exact fun _ _ _ h => h); (case hy_184 => (refine Or.inl ⟨by rfl, ?_⟩; (intro w hSw; (try dsimp only at hSw); go_simp) <;> with_reducible rfl)); (try simp only [Act.put, List.setIfInBounds_toArray, List.set_cons_zero, List.set_cons_succ]))
              refine wpAnyH_done (by kernel_rfl) ?_ _
              try rw [hstr]
              go_wp2_with fail
              refine (refSum BB _ (by have := hBBl.out; omega)).mono ?_
              rintro en wa ⟨rfl, hua⟩
              rw [hsm.out]
              go_wp2_with fail
              refine (refField (sm : Int) 4 _ (by omega) (by omega) (by decide)).mono ?_
              rintro en wb ⟨rfl, hub⟩
              have hUb := (hU.trans hua fun _ _ h => h).trans hub fun _ _ h => h
              go_wp2_with fail
              go_ret
              refine ⟨?_, hUb⟩
              rw [app_str, hslot.out]
              simp
        case hs172_1 =>
          intro K hK; have hst := run_str (P := Try.prog) _ 42 9 5 Try.underlying42 Try.underlying5 Try.underlying9 _ _ hB; go_simp; clear hst
          try go_wp2_with fail
          refine hK.out _ _ ?_ (fun hHeld => ?_)
          · (try dsimp only); first | exact ⟨x0, x1, x4⟩ | exact ⟨(Upd.alloc Non _ _).cell x0 fun h => h, (Upd.alloc Non _ _).cell x1 fun h => h, (Upd.alloc Non _ _).cell x4 fun h => h⟩
          clear hK K
          try simp only [Act.put, List.setIfInBounds_toArray, List.set_cons_zero, List.set_cons_succ]
          refine wpAnyH_ready (rs := [9]) (by kernel_rfl) (by simp) ?_
          refine AllReadyH.cons (o := ?oo185_0) ?ho185_0 ?hs185_0 AllReadyH.nil
          case ho185_0 => (simp only [List.getElem?_toArray, List.getElem?_cons_succ, List.getElem?_cons_zero]; rfl)
          case hs185_0 =>
            intro K hK; go_simp; go_at_call 42; refine (refField q 8 _ (by omega) (by omega) (by decide)).mono ?_; rintro en wn ⟨rfl, hu⟩
            have x0 := hu.cell x0 fun h => h; have x1 := hu.cell x1 fun h => h; have x4 := hu.cell x4 fun h => h
            have hU := (by first | exact hU.trans hu fun _ _ h => h | exact (hU.then_drew).trans hu fun _ _ h => h : Upd Non w wn)
            try have hB := hB.non hu
            clear hu
            try go_wp2_with fail
            refine hK.out _ _ ?_ (fun hHeld => ?_)
            · (try dsimp only); first | exact ⟨x0, x1, x4⟩ | exact ⟨(Upd.alloc Non _ _).cell x0 fun h => h, (Upd.alloc Non _ _).cell x1 fun h => h, (Upd.alloc Non _ _).cell x4 fun h => h⟩
            clear hK K
            try simp only [Act.put, List.setIfInBounds_toArray, List.set_cons_zero, List.set_cons_succ]
            (refine wpAnyH_take (i := 10) (oi := ?oi_186) (v := ?v_186) ?ho_186 ?hs_186 ?hf_186 ?hr_186 ?hQ_186 ?hy_186 ?hS_186 ?rest_186; (case hr_186 => kernel_rfl); (case hf_186 => kernel_rfl); (case hs_186 => kernel_rfl); (case ho_186 => (simp only [List.getElem?_toArray, List.getElem?_cons_succ, List.getElem?_cons_zero]; rfl)); (case hS_186 => assumption); (case hQ_186 => exact fun _ _ _ h => h); (case hy_186 => (refine Or.inl ⟨by rfl, ?_⟩; (intro w hSw; (try dsimp only at hSw); go_simp) <;> with_reducible rfl)); (try simp only [Act.put, List.setIfInBounds_toArray, List.set_cons_zero, List.set_cons_succ]))
            refine wpAnyH_ready (rs := [14]) (by kernel_rfl) (by simp) ?_
            refine AllReadyH.cons (o := ?oo187_0) ?ho187_0 ?hs187_0 AllReadyH.nil
            case ho187_0 => (simp only [List.getElem?_toArray, List.getElem?_cons_succ, List.getElem?_cons_zero]; rfl)
            case hs187_0 =>
              intro K hK; go_simp; go_at_call 42; refine (refField (d.length : Int) 2 _ (by omega) (by omega) (by decide)).mono ?_; rintro en wn ⟨rfl, hu⟩
              have x0 := hu.cell x0 fun h => h; have x1 := hu.cell x1 fun h => h; have x4 := hu.cell x4 fun h => h
              have hU := (by first | exact hU.trans hu fun _ _ h => h | exact (hU.then_drew).trans hu fun _ _ h => h : Upd Non w wn)
              try have hB := hB.non hu
              clear hu
              try go_wp2_with fail
              refine hK.out _ _ ?_ (fun hHeld => ?_)
              · (try dsimp only); first | exact ⟨x0, x1, x4⟩ | exact ⟨(Upd.alloc Non _ _).cell x0 fun h => h, (Upd.alloc Non _ _).cell x1 fun h => h, (Upd.alloc Non _ _).cell x4 fun h => h⟩
              clear hK K
              try simp only [Act.put, List.setIfInBounds_toArray, List.set_cons_zero, List.set_cons_succ]
              (refine wpAnyH_take (i := 15) (oi := ?oi_188) (v := ?v_188) ?ho_188 ?hs_188 ?hf_188 ?hr_188 ?hQ_188 ?hy_188 ?hS_188 ?rest_188; (case hr_188 => kernel_rfl); (case hf_188 => kernel_rfl); (case hs_188 => kernel_rfl); (case ho_188 => (simp only [List.getElem?_toArray, List.getElem?_cons_succ, List.getElem?_cons_zero]; rfl)); (case hS_188 => assumption); (case hQ_188 => exact fun _ _ _ h => h); (case hy_188 => (refine Or.inl ⟨by rfl, ?_⟩; (intro w hSw; (try dsimp only at hSw); go_simp) <;> with_reducible rfl)); (try simp only [Act.put, List.setIfInBounds_toArray, List.set_cons_zero, List.set_cons_succ]))
              (refine wpAnyH_take (i := 18) (oi := ?oi_189) (v := ?v_189) ?ho_189 ?hs_189 ?hf_189 ?hr_189 ?hQ_189 ?hy_189 ?hS_189 ?rest_189; (case hr_189 => kernel_rfl); (case hf_189 => kernel_rfl); (case hs_189 => kernel_rfl); (case ho_189 => (simp only [List.getElem?_toArray, List.getElem?_cons_succ, List.getElem?_cons_zero]; rfl)); (case hS_189 => assumption); (case hQ_189 => exact fun _ _ _ h => h); (case hy_189 => (refine Or.inl ⟨by rfl, ?_⟩; (intro w hSw; (try dsimp only at hSw); go_simp) <;> with_reducible rfl)); (try simp only [Act.put, List.setIfInBounds_toArray, List.set_cons_zero, List.set_cons_succ]))
              (refine wpAnyH_take (i := 25) (oi := ?oi_190) (v := ?v_190) ?ho_190 ?hs_190 ?hf_190 ?hr_190 ?hQ_190 ?hy_190 ?hS_190 ?rest_190; (case hr_190 => kernel_rfl); (case hf_190 => kernel_rfl); (case hs_190 => kernel_rfl); (case ho_190 => (simp only [List.getElem?_toArray, List.getElem?_cons_succ, List.getElem?_cons_zero]; rfl)); (case hS_190 => assumption); (case hQ_190 => exact fun _ _ _ h => h); (case hy_190 => (refine Or.inl ⟨by rfl, ?_⟩; (intro w hSw; (try dsimp only at hSw); go_simp) <;> with_reducible rfl)); (try simp only [Act.put, List.setIfInBounds_toArray, List.set_cons_zero, List.set_cons_succ]))
              (refine wpAnyH_take (i := 26) (oi := ?oi_191) (v := ?v_191) ?ho_191 ?hs_191 ?hf_191 ?hr_191 ?hQ_191 ?hy_191 ?hS_191 ?rest_191; (case hr_191 => kernel_rfl); (case hf_191 => kernel_rfl); (case hs_191 => kernel_rfl); (case ho_191 => (simp only [List.getElem?_toArray, List.getElem?_cons_succ, List.getElem?_cons_zero]; rfl)); (case hS_191 => assumption); (case hQ_191 => exact fun _ _ _ h => h); (case hy_191 => (refine Or.inl ⟨by rfl, ?_⟩; (intro w hSw; (try dsimp only at hSw); go_simp) <;> with_reducible rfl)); (try simp only [Act.put, List.setIfInBounds_toArray, List.set_cons_zero, List.set_cons_succ]))
              refine wpAnyH_done (by kernel_rfl) ?_ _
              try rw [hstr]
              go_wp2_with fail
              refine (refSum BB _ (by have := hBBl.out; omega)).mono ?_
              rintro en wa ⟨rfl, hua⟩
              rw [hsm.out]
              go_wp2_with fail
              refine (refField (sm : Int) 4 _ (by omega) (by omega) (by decide)).mono ?_
              rintro en wb ⟨rfl, hub⟩
              have hUb := (hU.trans hua fun _ _ h => h).trans hub fun _ _ h => h
              go_wp2_with fail
              go_ret
              refine ⟨?_, hUb⟩
              rw [app_str, hslot.out]
              simp
    case hs150_1 =>
      intro K hK; have hmk := hmk0; go_simp; clear hmk
      try go_wp2_with fail
      refine hK.out _ _ ?_ (fun hHeld => ?_)
      · (try dsimp only); exact ⟨(Upd.alloc Non _ _).cell x0 fun h => h, (Upd.alloc Non _ _).cell x1 fun h => h, (Upd.alloc Non _ _).cell x4 fun h => h⟩
      clear hK K
      try simp only [Act.put, List.setIfInBounds_toArray, List.set_cons_zero, List.set_cons_succ]
      obtain ⟨hB, hU, x0, x1, x4⟩ := made_noughts hU x0 x1 x4 5 (108 - d.length) (by omega)
      refine wpAnyH_ready (rs := [5, 24]) (by kernel_rfl) (by simp) ?_
      refine AllReadyH.cons (o := ?oo192_0) ?ho192_0 ?hs192_0 (AllReadyH.cons (o := ?oo192_1) ?ho192_1 ?hs192_1 AllReadyH.nil)
      case ho192_0 => (simp only [List.getElem?_toArray, List.getElem?_cons_succ, List.getElem?_cons_zero]; rfl)
      case ho192_1 => (simp only [List.getElem?_toArray, List.getElem?_cons_succ, List.getElem?_cons_zero]; rfl)
      case hs192_0 =>
        intro K hK; go_simp; go_at_call 42; refine (refField e 4 _ (by omega) (by omega) (by decide)).mono ?_; rintro en wn ⟨rfl, hu⟩
        have x0 := hu.cell x0 fun h => h; have x1 := hu.cell x1 fun h => h; have x4 := hu.cell x4 fun h => h
        have hU := (by first | exact hU.trans hu fun _ _ h => h | exact (hU.then_drew).trans hu fun _ _ h => h : Upd Non w wn)
        try have hB := hB.non hu
        clear hu
        try go_wp2_with fail
        refine hK.out _ _ ?_ (fun hHeld => ?_)
        · (try dsimp only); first | exact ⟨x0, x1, x4⟩ | exact ⟨(Upd.alloc Non _ _).cell x0 fun h => h, (Upd.alloc Non _ _).cell x1 fun h => h, (Upd.alloc Non _ _).cell x4 fun h => h⟩
        clear hK K
        try simp only [Act.put, List.setIfInBounds_toArray, List.set_cons_zero, List.set_cons_succ]
        (refine wpAnyH_take (i := 6) (oi := ?oi_193) (v := ?v_193) ?ho_193 ?hs_193 ?hf_193 ?hr_193 ?hQ_193 ?hy_193 ?hS_193 ?rest_193; (case hr_193 => kernel_rfl); (case hf_193 => kernel_rfl); (case hs_193 => kernel_rfl); (case ho_193 => (simp only [List.getElem?_toArray, List.getElem?_cons_succ, List.getElem?_cons_zero]; rfl)); (case hS_193 => assumption); (case hQ_193 => exact fun _ _ _ h => h); (case hy_193 => (refine Or.inl ⟨by rfl, ?_⟩; (intro w hSw; (try dsimp only at hSw); go_simp) <;> with_reducible rfl)); (try simp only [Act.put, List.setIfInBounds_toArray, List.set_cons_zero, List.set_cons_succ]))
        refine wpAnyH_ready (rs := [9, 24]) (by kernel_rfl) (by simp) ?_
        refine AllReadyH.cons (o := ?oo194_0) ?ho194_0 ?hs194_0 (AllReadyH.cons (o := ?oo194_1) ?ho194_1 ?hs194_1 AllReadyH.nil)
        case ho194_0 => (simp only [List.getElem?_toArray, List.getElem?_cons_succ, List.getElem?_cons_zero]; rfl)
        case ho194_1 => (simp only [List.getElem?_toArray, List.getElem?_cons_succ, List.getElem?_cons_zero]; rfl)
        case hs194_0 =>
          intro K hK; go_simp; go_at_call 42; refine (refField q 8 _ (by omega) (by omega) (by decide)).mono ?_; rintro en wn ⟨rfl, hu⟩
          have x0 := hu.cell x0 fun h => h; have x1 := hu.cell x1 fun h => h; have x4 := hu.cell x4 fun h => h
          have hU := (by first | exact hU.trans hu fun _ _ h => h | exact (hU.then_drew).trans hu fun _ _ h => h : Upd Non w wn)
          try have hB := hB.non hu
          clear hu
          try go_wp2_with fail
          refine hK.out _ _ ?_ (fun hHeld => ?_)
          · (try dsimp only); first | exact ⟨x0, x1, x4⟩ | exact ⟨(Upd.alloc Non _ _).cell x0 fun h => h, (Upd.alloc Non _ _).cell x1 fun h => h, (Upd.alloc Non _ _).cell x4 fun h => h⟩
          clear hK K
          try simp only [Act.put, List.setIfInBounds_toArray, List.set_cons_zero, List.set_cons_succ]
          (refine wpAnyH_take (i := 10) (oi := ?oi_195) (v := ?v_195) ?ho_195 ?hs_195 ?hf_195 ?hr_195 ?hQ_195 ?hy_195 ?hS_195 ?rest_195; (case hr_195 => kernel_rfl); (case hf_195 => kernel_rfl); (case hs_195 => kernel_rfl); (case ho_195 => (simp only [List.getElem?_toArray, List.getElem?_cons_succ, List.getElem?_cons_zero]; rfl)); (case hS_195 => assumption); (case hQ_195 => exact fun _ _ _ h => h); (case hy_195 => (refine Or.inl ⟨by rfl, ?_⟩; (intro w hSw; (try dsimp only at hSw); go_simp) <;> with_reducible rfl)); (try simp only [Act.put, List.setIfInBounds_toArray, List.set_cons_zero, List.set_cons_succ]))
          refine wpAnyH_ready (rs := [14, 24]) (by kernel_rfl) (by simp) ?_
          refine AllReadyH.cons (o := ?oo196_0) ?ho196_0 ?hs196_0 (AllReadyH.cons (o := ?oo196_1) ?ho196_1 ?hs196_1 AllReadyH.nil)
          case ho196_0 => (simp only [List.getElem?_toArray, List.getElem?_cons_succ, List.getElem?_cons_zero]; rfl)
          case ho196_1 => (simp only [List.getElem?_toArray, List.getElem?_cons_succ, List.getElem?_cons_zero]; rfl)
          case hs196_0 =>
            intro K hK; go_simp; go_at_call 42; refine (refField (d.length : Int) 2 _ (by omega) (by omega) (by decide)).mono ?_; rintro en wn ⟨rfl, hu⟩
            have x0 := hu.cell x0 fun h => h; have x1 := hu.cell x1 fun h => h; have x4 := hu.cell x4 fun h => h
            have hU := (by first | exact hU.trans hu fun _ _ h => h | exact (hU.then_drew).trans hu fun _ _ h => h : Upd Non w wn)
            try have hB := hB.non hu
            clear hu
            try go_wp2_with fail
            refine hK.out _ _ ?_ (fun hHeld => ?_)
            · (try dsimp only); first | exact ⟨x0, x1, x4⟩ | exact ⟨(Upd.alloc Non _ _).cell x0 fun h => h, (Upd.alloc Non _ _).cell x1 fun h => h, (Upd.alloc Non _ _).cell x4 fun h => h⟩
            clear hK K
            try simp only [Act.put, List.setIfInBounds_toArray, List.set_cons_zero, List.set_cons_succ]
            (refine wpAnyH_take (i := 15) (oi := ?oi_197) (v := ?v_197) ?ho_197 ?hs_197 ?hf_197 ?hr_197 ?hQ_197 ?hy_197 ?hS_197 ?rest_197; (case hr_197 => kernel_rfl); (case hf_197 => kernel_rfl); (case hs_197 => kernel_rfl); (case ho_197 => (simp only [List.getElem?_toArray, List.getElem?_cons_succ, List.getElem?_cons_zero]; rfl)); (case hS_197 => assumption); (case hQ_197 => exact fun _ _ _ h => h); (case hy_197 => (refine Or.inl ⟨by rfl, ?_⟩; (intro w hSw; (try dsimp only at hSw); go_simp) <;> with_reducible rfl)); (try simp only [Act.put, List.setIfInBounds_toArray, List.set_cons_zero, List.set_cons_succ]))
            (refine wpAnyH_take (i := 18) (oi := ?oi_198) (v := ?v_198) ?ho_198 ?hs_198 ?hf_198 ?hr_198 ?hQ_198 ?hy_198 ?hS_198 ?rest_198; (case hr_198 => kernel_rfl); (case hf_198 => kernel_rfl); (case hs_198 => kernel_rfl); (case ho_198 => (simp only [List.getElem?_toArray, List.getElem?_cons_succ, List.getElem?_cons_zero]; rfl)); (case hS_198 => assumption); (case hQ_198 => exact fun _ _ _ h => h); (case hy_198 => (refine Or.inl ⟨by rfl, ?_⟩; (intro w hSw; (try dsimp only at hSw); go_simp) <;> with_reducible rfl)); (try simp only [Act.put, List.setIfInBounds_toArray, List.set_cons_zero, List.set_cons_succ]))
            refine wpAnyH_ready (rs := [24]) (by kernel_rfl) (by simp) ?_
            refine AllReadyH.cons (o := ?oo199_0) ?ho199_0 ?hs199_0 AllReadyH.nil
            case ho199_0 => (simp only [List.getElem?_toArray, List.getElem?_cons_succ, List.getElem?_cons_zero]; rfl)
            case hs199_0 =>
              intro K hK; have hst := run_str (P := Try.prog) _ 42 9 5 Try.underlying42 Try.underlying5 Try.underlying9 _ _ hB; go_simp; clear hst
              try go_wp2_with fail
              refine hK.out _ _ ?_ (fun hHeld => ?_)
              · (try dsimp only); first | exact ⟨x0, x1, x4⟩ | exact ⟨(Upd.alloc Non _ _).cell x0 fun h => h, (Upd.alloc Non _ _).cell x1 fun h => h, (Upd.alloc Non _ _).cell x4 fun h => h⟩
              clear hK K
              try simp only [Act.put, List.setIfInBounds_toArray, List.set_cons_zero, List.set_cons_succ]
              (refine wpAnyH_take (i := 25) (oi := ?oi_200) (v := ?v_200) ?ho_200 ?hs_200 ?hf_200 ?hr_200 ?hQ_200 ?hy_200 ?hS_200 ?rest_200; (case hr_200 => kernel_rfl); (case hf_200 => kernel_rfl); (case hs_200 => kernel_rfl); (case ho_200 => (simp only [List.getElem?_toArray, List.getElem?_cons_succ, List.getElem?_cons_zero]; rfl)); (case hS_200 => assumption); (case hQ_200 => exact fun _ _ _ h => h); (case hy_200 => (refine Or.inl ⟨by rfl, ?_⟩; (intro w hSw; (try dsimp only at hSw); go_simp) <;> with_reducible rfl)); (try simp only [Act.put, List.setIfInBounds_toArray, List.set_cons_zero, List.set_cons_succ]))
              (refine wpAnyH_take (i := 26) (oi := ?oi_201) (v := ?v_201) ?ho_201 ?hs_201 ?hf_201 ?hr_201 ?hQ_201 ?hy_201 ?hS_201 ?rest_201; (case hr_201 => kernel_rfl); (case hf_201 => kernel_rfl); (case hs_201 => kernel_rfl); (case ho_201 => (simp only [List.getElem?_toArray, List.getElem?_cons_succ, List.getElem?_cons_zero]; rfl)); (case hS_201 => assumption); (case hQ_201 => exact fun _ _ _ h => h); (case hy_201 => (refine Or.inl ⟨by rfl, ?_⟩; (intro w hSw; (try dsimp only at hSw); go_simp) <;> with_reducible rfl)); (try simp only [Act.put, List.setIfInBounds_toArray, List.set_cons_zero, List.set_cons_succ]))
              refine wpAnyH_done (by kernel_rfl) ?_ _
              try rw [hstr]
              go_wp2_with fail
              refine (refSum BB _ (by have := hBBl.out; omega)).mono ?_
              rintro en wa ⟨rfl, hua⟩
              rw [hsm.out]
              go_wp2_with fail
              refine (refField (sm : Int) 4 _ (by omega) (by omega) (by decide)).mono ?_
              rintro en wb ⟨rfl, hub⟩
              have hUb := (hU.trans hua fun _ _ h => h).trans hub fun _ _ h => h
              go_wp2_with fail
              go_ret
              refine ⟨?_, hUb⟩
              rw [app_str, hslot.out]
              simp
          case hs196_1 =>
            intro K hK; have hst := run_str (P := Try.prog) _ 42 9 5 Try.underlying42 Try.underlying5 Try.underlying9 _ _ hB; go_simp; clear hst
            try go_wp2_with fail
            refine hK.out _ _ ?_ (fun hHeld => ?_)
            · (try dsimp only); first | exact ⟨x0, x1, x4⟩ | exact ⟨(Upd.alloc Non _ _).cell x0 fun h => h, (Upd.alloc Non _ _).cell x1 fun h => h, (Upd.alloc Non _ _).cell x4 fun h => h⟩
            clear hK K
            try simp only [Act.put, List.setIfInBounds_toArray, List.set_cons_zero, List.set_cons_succ]
            refine wpAnyH_ready (rs := [14]) (by kernel_rfl) (by simp) ?_
            refine AllReadyH.cons (o := ?oo202_0) ?ho202_0 ?hs202_0 AllReadyH.nil
            case ho202_0 => (simp only [List.getElem?_toArray, List.getElem?_cons_succ, List.getElem?_cons_zero]; rfl)
            case hs202_0 =>
              intro K hK; go_simp; go_at_call 42; refine (refField (d.length : Int) 2 _ (by omega) (by omega) (by decide)).mono ?_; rintro en wn ⟨rfl, hu⟩
              have x0 := hu.cell x0 fun h => h; have x1 := hu.cell x1 fun h => h; have x4 := hu.cell x4 fun h => h
              have hU := (by first | exact hU.trans hu fun _ _ h => h | exact (hU.then_drew).trans hu fun _ _ h => h : Upd Non w wn)
              try have hB := hB.non hu
              clear hu
              try go_wp2_with fail
              refine hK.out _ _ ?_ (fun hHeld => ?_)
              · (try dsimp only); first | exact ⟨x0, x1, x4⟩ | exact ⟨(Upd.alloc Non _ _).cell x0 fun h => h, (Upd.alloc Non _ _).cell x1 fun h => h, (Upd.alloc Non _ _).cell x4 fun h => h⟩
              clear hK K
              try simp only [Act.put, List.setIfInBounds_toArray, List.set_cons_zero, List.set_cons_succ]
              (refine wpAnyH_take (i := 15) (oi := ?oi_203) (v := ?v_203) ?ho_203 ?hs_203 ?hf_203 ?hr_203 ?hQ_203 ?hy_203 ?hS_203 ?rest_203; (case hr_203 => kernel_rfl); (case hf_203 => kernel_rfl); (case hs_203 => kernel_rfl); (case ho_203 => (simp only [List.getElem?_toArray, List.getElem?_cons_succ, List.getElem?_cons_zero]; rfl)); (case hS_203 => assumption); (case hQ_203 => exact fun _ _ _ h => h); (case hy_203 => (refine Or.inl ⟨by rfl, ?_⟩; (intro w hSw; (try dsimp only at hSw); go_simp) <;> with_reducible rfl)); (try simp only [Act.put, List.setIfInBounds_toArray, List.set_cons_zero, List.set_cons_succ]))
              (refine wpAnyH_take (i := 18) (oi := ?oi_204) (v := ?v_204) ?ho_204 ?hs_204 ?hf_204 ?hr_204 ?hQ_204 ?hy_204 ?hS_204 ?rest_204; (case hr_204 => kernel_rfl); (case hf_204 => kernel_rfl); (case hs_204 => kernel_rfl); (case ho_204 => (simp only [List.getElem?_toArray, List.getElem?_cons_succ, List.getElem?_cons_zero]; rfl)); (case hS_204 => assumption); (case hQ_204 => exact fun _ _ _ h => h); (case hy_204 => (refine Or.inl ⟨by rfl, ?_⟩; (intro w hSw; (try dsimp only at hSw); go_simp) <;> with_reducible rfl)); (try simp only [Act.put, List.setIfInBounds_toArray, List.set_cons_zero, List.set_cons_succ]))
              (refine wpAnyH_take (i := 25) (oi := ?oi_205) (v := ?v_205) ?ho_205 ?hs_205 ?hf_205 ?hr_205 ?hQ_205 ?hy_205 ?hS_205 ?rest_205; (case hr_205 => kernel_rfl); (case hf_205 => kernel_rfl); (case hs_205 => kernel_rfl); (case ho_205 => (simp only [List.getElem?_toArray, List.getElem?_cons_succ, List.getElem?_cons_zero]; rfl)); (case hS_205 => assumption); (case hQ_205 => exact fun _ _ _ h => h); (case hy_205 => (refine Or.inl ⟨by rfl, ?_⟩; (intro w hSw; (try dsimp only at hSw); go_simp) <;> with_reducible rfl)); (try simp only [Act.put, List.setIfInBounds_toArray, List.set_cons_zero, List.set_cons_succ]))
              (refine wpAnyH_take (i := 26) (oi := ?oi_206) (v := ?v_206) ?ho_206 ?hs_206 ?hf_206 ?hr_206 ?hQ_206 ?hy_206 ?hS_206 ?rest_206; (case hr_206 => kernel_rfl); (case hf_206 => kernel_rfl); (case hs_206 => kernel_rfl); (case ho_206 => (simp only [List.getElem?_toArray, List.getElem?_cons_succ, List.getElem?_cons_zero]; rfl)); (case hS_206 => assumption); (case hQ_206 => exact fun _ _ _ h => h); (case hy_206 => (refine Or.inl ⟨by rfl, ?_⟩; (intro w hSw; (try dsimp only at hSw); go_simp) <;> with_reducible rfl)); (try simp only [Act.put, List.setIfInBounds_toArray, List.set_cons_zero, List.set_cons_succ]))
              refine wpAnyH_done (by kernel_rfl) ?_ _
              try rw [hstr]
              go_wp2_with fail
              refine (refSum BB _ (by have := hBBl.out; omega)).mono ?_
              rintro en wa ⟨rfl, hua⟩
              rw [hsm.out]
              go_wp2_with fail
              refine (refField (sm : Int) 4 _ (by omega) (by omega) (by decide)).mono ?_
              rintro en wb ⟨rfl, hub⟩
              have hUb := (hU.trans hua fun _ _ h => h).trans hub fun _ _ h => h
              go_wp2_with fail
              go_ret
              refine ⟨?_, hUb⟩
              rw [app_str, hslot.out]
              simp
        case hs194_1 =>
          intro K hK; have hst := run_str (P := Try.prog) _ 42 9 5 Try.underlying42 Try.underlying5 Try.underlying9 _ _ hB; go_simp; clear hst
          try go_wp2_with fail
          refine hK.out _ _ ?_ (fun hHeld => ?_)
          · (try dsimp only); first | exact ⟨x0, x1, x4⟩ | exact ⟨(Upd.alloc Non _ _).cell x0 fun h => h, (Upd.alloc Non _ _).cell x1 fun h => h, (Upd.alloc Non _ _).cell x4 fun h => h⟩
          clear hK K
          try simp only [Act.put, List.setIfInBounds_toArray, List.set_cons_zero, List.set_cons_succ]
          refine wpAnyH_ready (rs := [9]) (by kernel_rfl) (by simp) ?_
          refine AllReadyH.cons (o := ?oo207_0) ?ho207_0 ?hs207_0 AllReadyH.nil
          case ho207_0 => (simp only [List.getElem?_toArray, List.getElem?_cons_succ, List.getElem?_cons_zero]; rfl)
          case hs207_0 =>
            intro K hK; go_simp; go_at_call 42; refine (refField q 8 _ (by omega) (by omega) (by decide)).mono ?_; rintro en wn ⟨rfl, hu⟩
            have x0 := hu.cell x0 fun h => h; have x1 := hu.cell x1 fun h => h; have x4 := hu.cell x4 fun h => h
            have hU := (by first | exact hU.trans hu fun _ _ h => h | exact (hU.then_drew).trans hu fun _ _ h => h : Upd Non w wn)
            try have hB := hB.non hu
            clear hu
            try go_wp2_with fail
            refine hK.out _ _ ?_ (fun hHeld => ?_)
            · (try dsimp only); first | exact ⟨x0, x1, x4⟩ | exact ⟨(Upd.alloc Non _ _).cell x0 fun h => h, (Upd.alloc Non _ _).cell x1 fun h => h, (Upd.alloc Non _ _).cell x4 fun h => h⟩
            clear hK K
            try simp only [Act.put, List.setIfInBounds_toArray, List.set_cons_zero, List.set_cons_succ]
            (refine wpAnyH_take (i := 10) (oi := ?oi_208) (v := ?v_208) ?ho_208 ?hs_208 ?hf_208 ?hr_208 ?hQ_208 ?hy_208 ?hS_208 ?rest_208; (case hr_208 => kernel_rfl); (case hf_208 => kernel_rfl); (case hs_208 => kernel_rfl); (case ho_208 => (simp only [List.getElem?_toArray, List.getElem?_cons_succ, List.getElem?_cons_zero]; rfl)); (case hS_208 => assumption); (case hQ_208 => exact fun _ _ _ h => h); (case hy_208 => (refine Or.inl ⟨by rfl, ?_⟩; (intro w hSw; (try dsimp only at hSw); go_simp) <;> with_reducible rfl)); (try simp only [Act.put, List.setIfInBounds_toArray, List.set_cons_zero, List.set_cons_succ]))
            refine wpAnyH_ready (rs := [14]) (by kernel_rfl) (by simp) ?_
            refine AllReadyH.cons (o := ?oo209_0) ?ho209_0 ?hs209_0 AllReadyH.nil
            case ho209_0 => (simp only [List.getElem?_toArray, List.getElem?_cons_succ, List.getElem?_cons_zero]; rfl)
            case hs209_0 =>
              intro K hK; go_simp; go_at_call 42; refine (refField (d.length : Int) 2 _ (by omega) (by omega) (by decide)).mono ?_; rintro en wn ⟨rfl, hu⟩
              have x0 := hu.cell x0 fun h => h; have x1 := hu.cell x1 fun h => h; have x4 := hu.cell x4 fun h => h
              have hU := (by first | exact hU.trans hu fun _ _ h => h | exact (hU.then_drew).trans hu fun _ _ h => h : Upd Non w wn)
              try have hB := hB.non hu
              clear hu
              try go_wp2_with fail
              refine hK.out _ _ ?_ (fun hHeld => ?_)
              · (try dsimp only); first | exact ⟨x0, x1, x4⟩ | exact ⟨(Upd.alloc Non _ _).cell x0 fun h => h, (Upd.alloc Non _ _).cell x1 fun h => h, (Upd.alloc Non _ _).cell x4 fun h => h⟩
              clear hK K
              try simp only [Act.put, List.setIfInBounds_toArray, List.set_cons_zero, List.set_cons_succ]
              (refine wpAnyH_take (i := 15) (oi := ?oi_210) (v := ?v_210) ?ho_210 ?hs_210 ?hf_210 ?hr_210 ?hQ_210 ?hy_210 ?hS_210 ?rest_210; (case hr_210 => kernel_rfl); (case hf_210 => kernel_rfl); (case hs_210 => kernel_rfl); (case ho_210 => (simp only [List.getElem?_toArray, List.getElem?_cons_succ, List.getElem?_cons_zero]; rfl)); (case hS_210 => assumption); (case hQ_210 => exact fun _ _ _ h => h); (case hy_210 => (refine Or.inl ⟨by rfl, ?_⟩; (intro w hSw; (try dsimp only at hSw); go_simp) <;> with_reducible rfl)); (try simp only [Act.put, List.setIfInBounds_toArray, List.set_cons_zero, List.set_cons_succ]))
              (refine wpAnyH_take (i := 18) (oi := ?oi_211) (v := ?v_211) ?ho_211 ?hs_211 ?hf_211 ?hr_211 ?hQ_211 ?hy_211 ?hS_211 ?rest_211; (case hr_211 => kernel_rfl); (case hf_211 => kernel_rfl); (case hs_211 => kernel_rfl); (case ho_211 => (simp only [List.getElem?_toArray, List.getElem?_cons_succ, List.getElem?_cons_zero]; rfl)); (case hS_211 => assumption); (case hQ_211 => exact fun _ _ _ h => h); (case hy_211 => (refine Or.inl ⟨by rfl, ?_⟩; (intro w hSw; (try dsimp only at hSw); go_simp) <;> with_reducible rfl)); (try simp only [Act.put, List.setIfInBounds_toArray, List.set_cons_zero, List.set_cons_succ]))
              (refine wpAnyH_take (i := 25) (oi := ?oi_212) (v := ?v_212) ?ho_212 ?hs_212 ?hf_212 ?hr_212 ?hQ_212 ?hy_212 ?hS_212 ?rest_212; (case hr_212 => kernel_rfl); (case hf_212 => kernel_rfl); (case hs_212 => kernel_rfl); (case ho_212 => (simp only [List.getElem?_toArray, List.getElem?_cons_succ, List.getElem?_cons_zero]; rfl)); (case hS_212 => assumption); (case hQ_212 => exact fun _ _ _ h => h); (case hy_212 => (refine Or.inl ⟨by rfl, ?_⟩; (intro w hSw; (try dsimp only at hSw); go_simp) <;> with_reducible rfl)); (try simp only [Act.put, List.setIfInBounds_toArray, List.set_cons_zero, List.set_cons_succ]))
              (refine wpAnyH_take (i := 26) (oi := ?oi_213) (v := ?v_213) ?ho_213 ?hs_213 ?hf_213 ?hr_213 ?hQ_213 ?hy_213 ?hS_213 ?rest_213; (case hr_213 => kernel_rfl); (case hf_213 => kernel_rfl); (case hs_213 => kernel_rfl); (case ho_213 => (simp only [List.getElem?_toArray, List.getElem?_cons_succ, List.getElem?_cons_zero]; rfl)); (case hS_213 => assumption); (case hQ_213 => exact fun _ _ _ h => h); (case hy_213 => (refine Or.inl ⟨by rfl, ?_⟩; (intro w hSw; (try dsimp only at hSw); go_simp) <;> with_reducible rfl)); (try simp only [Act.put, List.setIfInBounds_toArray, List.set_cons_zero, List.set_cons_succ]))
              refine wpAnyH_done (by kernel_rfl) ?_ _
              try rw [hstr]
              go_wp2_with fail
              refine (refSum BB _ (by have := hBBl.out; omega)).mono ?_
              rintro en wa ⟨rfl, hua⟩
              rw [hsm.out]
              go_wp2_with fail
              refine (refField (sm : Int) 4 _ (by omega) (by omega) (by decide)).mono ?_
              rintro en wb ⟨rfl, hub⟩
              have hUb := (hU.trans hua fun _ _ h => h).trans hub fun _ _ h => h
              go_wp2_with fail
              go_ret
              refine ⟨?_, hUb⟩
              rw [app_str, hslot.out]
              simp
      case hs192_1 =>
        intro K hK; have hst := run_str (P := Try.prog) _ 42 9 5 Try.underlying42 Try.underlying5 Try.underlying9 _ _ hB; go_simp; clear hst
        try go_wp2_with fail
        refine hK.out _ _ ?_ (fun hHeld => ?_)
        · (try dsimp only); first | exact ⟨x0, x1, x4⟩ | exact ⟨(Upd.alloc Non _ _).cell x0 fun h => h, (Upd.alloc Non _ _).cell x1 fun h => h, (Upd.alloc Non _ _).cell x4 fun h => h⟩
        clear hK K
        try simp only [Act.put, List.setIfInBounds_toArray, List.set_cons_zero, List.set_cons_succ]
        refine wpAnyH_ready (rs := [5]) (by kernel_rfl) (by simp) ?_
        refine AllReadyH.cons (o := ?oo214_0) ?ho214_0 ?hs214_0 AllReadyH.nil
        case ho214_0 => (simp only [List.getElem?_toArray, List.getElem?_cons_succ, List.getElem?_cons_zero]; rfl)
        case hs214_0 =>
          intro K hK; go_simp; go_at_call 42; refine (refField e 4 _ (by omega) (by omega) (by decide)).mono ?_; rintro en wn ⟨rfl, hu⟩
          have x0 := hu.cell x0 fun h => h; have x1 := hu.cell x1 fun h => h; have x4 := hu.cell x4 fun h => h
          have hU := (by first | exact hU.trans hu fun _ _ h => h | exact (hU.then_drew).trans hu fun _ _ h => h : Upd Non w wn)
          try have hB := hB.non hu
          clear hu
          try go_wp2_with fail
          refine hK.out _ _ ?_ (fun hHeld => ?_)
          · (try dsimp only); first | exact ⟨x0, x1, x4⟩ | exact ⟨(Upd.alloc Non _ _).cell x0 fun h => h, (Upd.alloc Non _ _).cell x1 fun h => h, (Upd.alloc Non _ _).cell x4 fun h => h⟩
          clear hK K
          try simp only [Act.put, List.setIfInBounds_toArray, List.set_cons_zero, List.set_cons_succ]
          (refine wpAnyH_take (i := 6) (oi := ?oi_215) (v := ?v_215) ?ho_215 ?hs_215 ?hf_215 ?hr_215 ?hQ_215 ?hy_215 ?hS_215 ?rest_215; (case hr_215 => kernel_rfl); (case hf_215 => kernel_rfl); (case hs_215 => kernel_rfl); (case ho_215 => (simp only [List.getElem?_toArray, List.getElem?_cons_succ, List.getElem?_cons_zero]; rfl)); (case hS_215 => assumption); (case hQ_215 => exact fun _ _ _ h => h); (case hy_215 => (refine Or.inl ⟨by rfl, ?_⟩; (intro w hSw; (try dsimp only at hSw); go_simp) <;> with_reducible rfl)); (try simp only [Act.put, List.setIfInBounds_toArray, List.set_cons_zero, List.set_cons_succ]))
          refine wpAnyH_ready (rs := [9]) (by kernel_rfl) (by simp) ?_
          refine AllReadyH.cons (o := ?oo216_0) ?ho216_0 ?hs216_0 AllReadyH.nil
          case ho216_0 => (simp only [List.getElem?_toArray, List.getElem?_cons_succ, List.getElem?_cons_zero]; rfl)
          case hs216_0 =>
            intro K hK; go_simp; go_at_call 42; refine (refField q 8 _ (by omega) (by omega) (by decide)).mono ?_; rintro en wn ⟨rfl, hu⟩
            have x0 := hu.cell x0 fun h => h; have x1 := hu.cell x1 fun h => h; have x4 := hu.cell x4 fun h => h
            have hU := (by first | exact hU.trans hu fun _ _ h => h | exact (hU.then_drew).trans hu fun _ _ h => h : Upd Non w wn)
            try have hB := hB.non hu
            clear hu
            try go_wp2_with fail
            refine hK.out _ _ ?_ (fun hHeld => ?_)
            · (try dsimp only); first | exact ⟨x0, x1, x4⟩ | exact ⟨(Upd.alloc Non _ _).cell x0 fun h => h, (Upd.alloc Non _ _).cell x1 fun h => h, (Upd.alloc Non _ _).cell x4 fun h => h⟩
            clear hK K
            try simp only [Act.put, List.setIfInBounds_toArray, List.set_cons_zero, List.set_cons_succ]
            (refine wpAnyH_take (i := 10) (oi := ?oi_217) (v := ?v_217) ?ho_217 ?hs_217 ?hf_217 ?hr_217 ?hQ_217 ?hy_217 ?hS_217 ?rest_217; (case hr_217 => kernel_rfl); (case hf_217 => kernel_rfl); (case hs_217 => kernel_rfl); (case ho_217 => (simp only [List.getElem?_toArray, List.getElem?_cons_succ, List.getElem?_cons_zero]; rfl)); (case hS_217 => assumption); (case hQ_217 => exact fun _ _ _ h => h); (case hy_217 => (refine Or.inl ⟨by rfl, ?_⟩; (intro w hSw; (try dsimp only at hSw); go_simp) <;> with_reducible rfl)); (try simp only [Act.put, List.setIfInBounds_toArray, List.set_cons_zero, List.set_cons_succ]))
            refine wpAnyH_ready (rs := [14]) (by kernel_rfl) (by simp) ?_
            refine AllReadyH.cons (o := ?oo218_0) ?ho218_0 ?hs218_0 AllReadyH.nil
            case ho218_0 => (simp only [List.getElem?_toArray, List.getElem?_cons_succ, List.getElem?_cons_zero]; rfl)
            case hs218_0 =>
              intro K hK; go_simp; go_at_call 42; refine (refField (d.length : Int) 2 _ (by omega) (by omega) (by decide)).mono ?_; rintro en wn ⟨rfl, hu⟩
              have x0 := hu.cell x0 fun h => h; have x1 := hu.cell x1 fun h => h; have x4 := hu.cell x4 fun h => h
              have hU := (by first | exact hU.trans hu fun _ _ h => h | exact (hU.then_drew).trans hu fun _ _ h => h : Upd Non w wn)
              try have hB := hB.non hu
              clear hu
              try go_wp2_with fail
              refine hK.out _ _ ?_ (fun hHeld => ?_)
              · (try dsimp only); first | exact ⟨x0, x1, x4⟩ | exact ⟨(Upd.alloc Non _ _).cell x0 fun h => h, (Upd.alloc Non _ _).cell x1 fun h => h, (Upd.alloc Non _ _).cell x4 fun h => h⟩
              clear hK K
              try simp only [Act.put, List.setIfInBounds_toArray, List.set_cons_zero, List.set_cons_succ]
              (refine wpAnyH_take (i := 15) (oi := ?oi_219) (v := ?v_219) ?ho_219 ?hs_219 ?hf_219 ?hr_219 ?hQ_219 ?hy_219 ?hS_219 ?rest_219; (case hr_219 => kernel_rfl); (case hf_219 => kernel_rfl); (case hs_219 => kernel_rfl); (case ho_219 => (simp only [List.getElem?_toArray, List.getElem?_cons_succ, List.getElem?_cons_zero]; rfl)); (case hS_219 => assumption); (case hQ_219 => exact fun _ _ _ h => h); (case hy_219 => (refine Or.inl ⟨by rfl, ?_⟩; (intro w hSw; (try dsimp only at hSw); go_simp) <;> with_reducible rfl)); (try simp only [Act.put, List.setIfInBounds_toArray, List.set_cons_zero, List.set_cons_succ]))
              (refine wpAnyH_take (i := 18) (oi := ?oi_220) (v := ?v_220) ?ho_220 ?hs_220 ?hf_220 ?hr_220 ?hQ_220 ?hy_220 ?hS_220 ?rest_220; (case hr_220 => kernel_rfl); (case hf_220 => kernel_rfl); (case hs_220 => kernel_rfl); (case ho_220 => (simp only [List.getElem?_toArray, List.getElem?_cons_succ, List.getElem?_cons_zero]; rfl)); (case hS_220 => assumption); (case hQ_220 => exact fun _ _ _ h => h); (case hy_220 => (refine Or.inl ⟨by rfl, ?_⟩; (intro w hSw; (try dsimp only at hSw); go_simp) <;> with_reducible rfl)); (try simp only [Act.put, List.setIfInBounds_toArray, List.set_cons_zero, List.set_cons_succ]))
              (refine wpAnyH_take (i := 25) (oi := ?oi_221) (v := ?v_221) ?ho_221 ?hs_221 ?hf_221 ?hr_221 ?hQ_221 ?hy_221 ?hS_221 ?rest_221; (case hr_221 => kernel_rfl); (case hf_221 => kernel_rfl); (case hs_221 => kernel_rfl); (case ho_221 => (simp only [List.getElem?_toArray, List.getElem?_cons_succ, List.getElem?_cons_zero]; rfl)); (case hS_221 => assumption); (case hQ_221 => exact fun _ _ _ h => h); (case hy_221 => (refine Or.inl ⟨by rfl, ?_⟩; (intro w hSw; (try dsimp only at hSw); go_simp) <;> with_reducible rfl)); (try simp only [Act.put, List.setIfInBounds_toArray, List.set_cons_zero, List.set_cons_succ]))
              (refine wpAnyH_take (i := 26) (oi := ?oi_222) (v := ?v_222) ?ho_222 ?hs_222 ?hf_222 ?hr_222 ?hQ_222 ?hy_222 ?hS_222 ?rest_222; (case hr_222 => kernel_rfl); (case hf_222 => kernel_rfl); (case hs_222 => kernel_rfl); (case ho_222 => (simp only [List.getElem?_toArray, List.getElem?_cons_succ, List.getElem?_cons_zero]; rfl)); (case hS_222 => assumption); (case hQ_222 => exact fun _ _ _ h => h); (case hy_222 => (refine Or.inl ⟨by rfl, ?_⟩; (intro w hSw; (try dsimp only at hSw); go_simp) <;> with_reducible rfl)); (try simp only [Act.put, List.setIfInBounds_toArray, List.set_cons_zero, List.set_cons_succ]))
              refine wpAnyH_done (by kernel_rfl) ?_ _
              try rw [hstr]
              go_wp2_with fail
              refine (refSum BB _ (by have := hBBl.out; omega)).mono ?_
              rintro en wa ⟨rfl, hua⟩
              rw [hsm.out]
              go_wp2_with fail
              refine (refField (sm : Int) 4 _ (by omega) (by omega) (by decide)).mono ?_
              rintro en wb ⟨rfl, hub⟩
              have hUb := (hU.trans hua fun _ _ h => h).trans hub fun _ _ h => h
              go_wp2_with fail
              go_ret
              refine ⟨?_, hUb⟩
              rw [app_str, hslot.out]
              simp
  case hs148_1 =>
    intro K hK; have hmk := hmk0; go_simp; clear hmk
    try go_wp2_with fail
    refine hK.out _ _ ?_ (fun hHeld => ?_)
    · (try dsimp only); exact ⟨(Upd.alloc Non _ _).cell x0 fun h => h, (Upd.alloc Non _ _).cell x1 fun h => h, (Upd.alloc Non _ _).cell x4 fun h => h⟩
    clear hK K
    try simp only [Act.put, List.setIfInBounds_toArray, List.set_cons_zero, List.set_cons_succ]
    obtain ⟨hB, hU, x0, x1, x4⟩ := made_noughts hU x0 x1 x4 5 (108 - d.length) (by omega)
    rw [show (World.drew (w.alloc (.cells #[.int .i64 e, .int .i64 q, .bool true, .bool false, .string ⟨d.toArray⟩] 41))).heap.size = w.heap.size + 1 by simp] at hB
    refine wpAnyH_ready (rs := [1, 24]) (by kernel_rfl) (by simp) ?_
    refine AllReadyH.cons (o := ?oo223_0) ?ho223_0 ?hs223_0 (AllReadyH.cons (o := ?oo223_1) ?ho223_1 ?hs223_1 AllReadyH.nil)
    case ho223_0 => (simp only [List.getElem?_toArray, List.getElem?_cons_succ, List.getElem?_cons_zero]; rfl)
    case ho223_1 => (simp only [List.getElem?_toArray, List.getElem?_cons_succ, List.getElem?_cons_zero]; rfl)
    case hs223_0 =>
      intro K hK; go_simp; go_at_call 42; refine (refField 1 1 _ (by omega) (by omega) (by decide)).mono ?_; rintro en wn ⟨rfl, hu⟩
      have x0 := hu.cell x0 fun h => h; have x1 := hu.cell x1 fun h => h; have x4 := hu.cell x4 fun h => h
      have hU := (by first | exact hU.trans hu fun _ _ h => h | exact (hU.then_drew).trans hu fun _ _ h => h : Upd Non w wn)
      try have hB := hB.non hu
      clear hu
      try go_wp2_with fail
      refine hK.out _ _ ?_ (fun hHeld => ?_)
      · (try dsimp only); first | exact ⟨x0, x1, x4⟩ | exact ⟨(Upd.alloc Non _ _).cell x0 fun h => h, (Upd.alloc Non _ _).cell x1 fun h => h, (Upd.alloc Non _ _).cell x4 fun h => h⟩
      clear hK K
      try simp only [Act.put, List.setIfInBounds_toArray, List.set_cons_zero, List.set_cons_succ]
      (refine wpAnyH_take (i := 2) (oi := ?oi_224) (v := ?v_224) ?ho_224 ?hs_224 ?hf_224 ?hr_224 ?hQ_224 ?hy_224 ?hS_224 ?rest_224; (case hr_224 => kernel_rfl); (case hf_224 => kernel_rfl); (case hs_224 => kernel_rfl); (case ho_224 => (simp only [List.getElem?_toArray, List.getElem?_cons_succ, List.getElem?_cons_zero]; rfl)); (case hS_224 => assumption); (case hQ_224 => exact fun _ _ _ h => h); (case hy_224 => (refine Or.inl ⟨by rfl, ?_⟩; (intro w hSw; (try dsimp only at hSw); go_simp) <;> with_reducible rfl)); (try simp only [Act.put, List.setIfInBounds_toArray, List.set_cons_zero, List.set_cons_succ]))
      refine wpAnyH_ready (rs := [5, 24]) (by kernel_rfl) (by simp) ?_
      refine AllReadyH.cons (o := ?oo225_0) ?ho225_0 ?hs225_0 (AllReadyH.cons (o := ?oo225_1) ?ho225_1 ?hs225_1 AllReadyH.nil)
      case ho225_0 => (simp only [List.getElem?_toArray, List.getElem?_cons_succ, List.getElem?_cons_zero]; rfl)
      case ho225_1 => (simp only [List.getElem?_toArray, List.getElem?_cons_succ, List.getElem?_cons_zero]; rfl)
      case hs225_0 =>
        intro K hK; go_simp; go_at_call 42; refine (refField e 4 _ (by omega) (by omega) (by decide)).mono ?_; rintro en wn ⟨rfl, hu⟩
        have x0 := hu.cell x0 fun h => h; have x1 := hu.cell x1 fun h => h; have x4 := hu.cell x4 fun h => h
        have hU := (by first | exact hU.trans hu fun _ _ h => h | exact (hU.then_drew).trans hu fun _ _ h => h : Upd Non w wn)
        try have hB := hB.non hu
        clear hu
        try go_wp2_with fail
        refine hK.out _ _ ?_ (fun hHeld => ?_)
        · (try dsimp only); first | exact ⟨x0, x1, x4⟩ | exact ⟨(Upd.alloc Non _ _).cell x0 fun h => h, (Upd.alloc Non _ _).cell x1 fun h => h, (Upd.alloc Non _ _).cell x4 fun h => h⟩
        clear hK K
        try simp only [Act.put, List.setIfInBounds_toArray, List.set_cons_zero, List.set_cons_succ]
        (refine wpAnyH_take (i := 6) (oi := ?oi_226) (v := ?v_226) ?ho_226 ?hs_226 ?hf_226 ?hr_226 ?hQ_226 ?hy_226 ?hS_226 ?rest_226; (case hr_226 => kernel_rfl); (case hf_226 => kernel_rfl); (case hs_226 => kernel_rfl); (case ho_226 => (simp only [List.getElem?_toArray, List.getElem?_cons_succ, List.getElem?_cons_zero]; rfl)); (case hS_226 => assumption); (case hQ_226 => exact fun _ _ _ h => h); (case hy_226 => (refine Or.inl ⟨by rfl, ?_⟩; (intro w hSw; (try dsimp only at hSw); go_simp) <;> with_reducible rfl)); (try simp only [Act.put, List.setIfInBounds_toArray, List.set_cons_zero, List.set_cons_succ]))
        refine wpAnyH_ready (rs := [9, 24]) (by kernel_rfl) (by simp) ?_
        refine AllReadyH.cons (o := ?oo227_0) ?ho227_0 ?hs227_0 (AllReadyH.cons (o := ?oo227_1) ?ho227_1 ?hs227_1 AllReadyH.nil)
        case ho227_0 => (simp only [List.getElem?_toArray, List.getElem?_cons_succ, List.getElem?_cons_zero]; rfl)
        case ho227_1 => (simp only [List.getElem?_toArray, List.getElem?_cons_succ, List.getElem?_cons_zero]; rfl)
        case hs227_0 =>
          intro K hK; go_simp; go_at_call 42; refine (refField q 8 _ (by omega) (by omega) (by decide)).mono ?_; rintro en wn ⟨rfl, hu⟩
          have x0 := hu.cell x0 fun h => h; have x1 := hu.cell x1 fun h => h; have x4 := hu.cell x4 fun h => h
          have hU := (by first | exact hU.trans hu fun _ _ h => h | exact (hU.then_drew).trans hu fun _ _ h => h : Upd Non w wn)
          try have hB := hB.non hu
          clear hu
          try go_wp2_with fail
          refine hK.out _ _ ?_ (fun hHeld => ?_)
          · (try dsimp only); first | exact ⟨x0, x1, x4⟩ | exact ⟨(Upd.alloc Non _ _).cell x0 fun h => h, (Upd.alloc Non _ _).cell x1 fun h => h, (Upd.alloc Non _ _).cell x4 fun h => h⟩
          clear hK K
          try simp only [Act.put, List.setIfInBounds_toArray, List.set_cons_zero, List.set_cons_succ]
          (refine wpAnyH_take (i := 10) (oi := ?oi_228) (v := ?v_228) ?ho_228 ?hs_228 ?hf_228 ?hr_228 ?hQ_228 ?hy_228 ?hS_228 ?rest_228; (case hr_228 => kernel_rfl); (case hf_228 => kernel_rfl); (case hs_228 => kernel_rfl); (case ho_228 => (simp only [List.getElem?_toArray, List.getElem?_cons_succ, List.getElem?_cons_zero]; rfl)); (case hS_228 => assumption); (case hQ_228 => exact fun _ _ _ h => h); (case hy_228 => (refine Or.inl ⟨by rfl, ?_⟩; (intro w hSw; (try dsimp only at hSw); go_simp) <;> with_reducible rfl)); (try simp only [Act.put, List.setIfInBounds_toArray, List.set_cons_zero, List.set_cons_succ]))
          refine wpAnyH_ready (rs := [14, 24]) (by kernel_rfl) (by simp) ?_
          refine AllReadyH.cons (o := ?oo229_0) ?ho229_0 ?hs229_0 (AllReadyH.cons (o := ?oo229_1) ?ho229_1 ?hs229_1 AllReadyH.nil)
          case ho229_0 => (simp only [List.getElem?_toArray, List.getElem?_cons_succ, List.getElem?_cons_zero]; rfl)
          case ho229_1 => (simp only [List.getElem?_toArray, List.getElem?_cons_succ, List.getElem?_cons_zero]; rfl)
          case hs229_0 =>
            intro K hK; go_simp; go_at_call 42; refine (refField (d.length : Int) 2 _ (by omega) (by omega) (by decide)).mono ?_; rintro en wn ⟨rfl, hu⟩
            have x0 := hu.cell x0 fun h => h; have x1 := hu.cell x1 fun h => h; have x4 := hu.cell x4 fun h => h
            have hU := (by first | exact hU.trans hu fun _ _ h => h | exact (hU.then_drew).trans hu fun _ _ h => h : Upd Non w wn)
            try have hB := hB.non hu
            clear hu
            try go_wp2_with fail
            refine hK.out _ _ ?_ (fun hHeld => ?_)
            · (try dsimp only); first | exact ⟨x0, x1, x4⟩ | exact ⟨(Upd.alloc Non _ _).cell x0 fun h => h, (Upd.alloc Non _ _).cell x1 fun h => h, (Upd.alloc Non _ _).cell x4 fun h => h⟩
            clear hK K
            try simp only [Act.put, List.setIfInBounds_toArray, List.set_cons_zero, List.set_cons_succ]
            (refine wpAnyH_take (i := 15) (oi := ?oi_230) (v := ?v_230) ?ho_230 ?hs_230 ?hf_230 ?hr_230 ?hQ_230 ?hy_230 ?hS_230 ?rest_230; (case hr_230 => kernel_rfl); (case hf_230 => kernel_rfl); (case hs_230 => kernel_rfl); (case ho_230 => (simp only [List.getElem?_toArray, List.getElem?_cons_succ, List.getElem?_cons_zero]; rfl)); (case hS_230 => assumption); (case hQ_230 => exact fun _ _ _ h => h); (case hy_230 => (refine Or.inl ⟨by rfl, ?_⟩; (intro w hSw; (try dsimp only at hSw); go_simp) <;> with_reducible rfl)); (try simp only [Act.put, List.setIfInBounds_toArray, List.set_cons_zero, List.set_cons_succ]))
            (refine wpAnyH_take (i := 18) (oi := ?oi_231) (v := ?v_231) ?ho_231 ?hs_231 ?hf_231 ?hr_231 ?hQ_231 ?hy_231 ?hS_231 ?rest_231; (case hr_231 => kernel_rfl); (case hf_231 => kernel_rfl); (case hs_231 => kernel_rfl); (case ho_231 => (simp only [List.getElem?_toArray, List.getElem?_cons_succ, List.getElem?_cons_zero]; rfl)); (case hS_231 => assumption); (case hQ_231 => exact fun _ _ _ h => h); (case hy_231 => (refine Or.inl ⟨by rfl, ?_⟩; (intro w hSw; (try dsimp only at hSw); go_simp) <;> with_reducible rfl)); (try simp only [Act.put, List.setIfInBounds_toArray, List.set_cons_zero, List.set_cons_succ]))
            refine wpAnyH_ready (rs := [24]) (by kernel_rfl) (by simp) ?_
            refine AllReadyH.cons (o := ?oo232_0) ?ho232_0 ?hs232_0 AllReadyH.nil
            case ho232_0 => (simp only [List.getElem?_toArray, List.getElem?_cons_succ, List.getElem?_cons_zero]; rfl)
            case hs232_0 =>
              intro K hK; have hst := run_str (P := Try.prog) _ 42 9 5 Try.underlying42 Try.underlying5 Try.underlying9 _ _ hB; go_simp; clear hst
              try go_wp2_with fail
              refine hK.out _ _ ?_ (fun hHeld => ?_)
              · (try dsimp only); first | exact ⟨x0, x1, x4⟩ | exact ⟨(Upd.alloc Non _ _).cell x0 fun h => h, (Upd.alloc Non _ _).cell x1 fun h => h, (Upd.alloc Non _ _).cell x4 fun h => h⟩
              clear hK K
              try simp only [Act.put, List.setIfInBounds_toArray, List.set_cons_zero, List.set_cons_succ]
              (refine wpAnyH_take (i := 25) (oi := ?oi_233) (v := ?v_233) ?ho_233 ?hs_233 ?hf_233 ?hr_233 ?hQ_233 ?hy_233 ?hS_233 ?rest_233; (case hr_233 => kernel_rfl); (case hf_233 => kernel_rfl); (case hs_233 => kernel_rfl); (case ho_233 => (simp only [List.getElem?_toArray, List.getElem?_cons_succ, List.getElem?_cons_zero]; rfl)); (case hS_233 => assumption); (case hQ_233 => exact fun _ _ _ h => h); (case hy_233 => (refine Or.inl ⟨by rfl, ?_⟩; (intro w hSw; (try dsimp only at hSw); go_simp) <;> with_reducible rfl)); (try simp only [Act.put, List.setIfInBounds_toArray, List.set_cons_zero, List.set_cons_succ]))
              (refine wpAnyH_take (i := 26) (oi := ?oi_234) (v := ?v_234) ?ho_234 ?hs_234 ?hf_234 ?hr_234 ?hQ_234 ?hy_234 ?hS_234 ?rest_234; (case hr_234 => kernel_rfl); (case hf_234 => kernel_rfl); (case hs_234 => kernel_rfl); (case ho_234 => (simp only [List.getElem?_toArray, List.getElem?_cons_succ, List.getElem?_cons_zero]; rfl)); (case hS_234 => assumption); (case hQ_234 => exact fun _ _ _ h => h); (case hy_234 => (refine Or.inl ⟨by rfl, ?_⟩; (intro w hSw; (try dsimp only at hSw); go_simp) <;> with_reducible rfl)); (try simp only [Act.put, List.setIfInBounds_toArray, List.set_cons_zero, List.set_cons_succ]))
              refine wpAnyH_done (by kernel_rfl) ?_ _
              try rw [hstr]
              go_wp2_with fail
              refine (refSum BB _ (by have := hBBl.out; omega)).mono ?_
              rintro en wa ⟨rfl, hua⟩
              rw [hsm.out]
              go_wp2_with fail
              refine (refField (sm : Int) 4 _ (by omega) (by omega) (by decide)).mono ?_
              rintro en wb ⟨rfl, hub⟩
              have hUb := (hU.trans hua fun _ _ h => h).trans hub fun _ _ h => h
              go_wp2_with fail
              go_ret
              refine ⟨?_, hUb⟩
              rw [app_str, hslot.out]
              simp
          case hs229_1 =>
            intro K hK; have hst := run_str (P := Try.prog) _ 42 9 5 Try.underlying42 Try.underlying5 Try.underlying9 _ _ hB; go_simp; clear hst
            try go_wp2_with fail
            refine hK.out _ _ ?_ (fun hHeld => ?_)
            · (try dsimp only); first | exact ⟨x0, x1, x4⟩ | exact ⟨(Upd.alloc Non _ _).cell x0 fun h => h, (Upd.alloc Non _ _).cell x1 fun h => h, (Upd.alloc Non _ _).cell x4 fun h => h⟩
            clear hK K
            try simp only [Act.put, List.setIfInBounds_toArray, List.set_cons_zero, List.set_cons_succ]
            refine wpAnyH_ready (rs := [14]) (by kernel_rfl) (by simp) ?_
            refine AllReadyH.cons (o := ?oo235_0) ?ho235_0 ?hs235_0 AllReadyH.nil
            case ho235_0 => (simp only [List.getElem?_toArray, List.getElem?_cons_succ, List.getElem?_cons_zero]; rfl)
            case hs235_0 =>
              intro K hK; go_simp; go_at_call 42; refine (refField (d.length : Int) 2 _ (by omega) (by omega) (by decide)).mono ?_; rintro en wn ⟨rfl, hu⟩
              have x0 := hu.cell x0 fun h => h; have x1 := hu.cell x1 fun h => h; have x4 := hu.cell x4 fun h => h
              have hU := (by first | exact hU.trans hu fun _ _ h => h | exact (hU.then_drew).trans hu fun _ _ h => h : Upd Non w wn)
              try have hB := hB.non hu
              clear hu
              try go_wp2_with fail
              refine hK.out _ _ ?_ (fun hHeld => ?_)
              · (try dsimp only); first | exact ⟨x0, x1, x4⟩ | exact ⟨(Upd.alloc Non _ _).cell x0 fun h => h, (Upd.alloc Non _ _).cell x1 fun h => h, (Upd.alloc Non _ _).cell x4 fun h => h⟩
              clear hK K
              try simp only [Act.put, List.setIfInBounds_toArray, List.set_cons_zero, List.set_cons_succ]
              (refine wpAnyH_take (i := 15) (oi := ?oi_236) (v := ?v_236) ?ho_236 ?hs_236 ?hf_236 ?hr_236 ?hQ_236 ?hy_236 ?hS_236 ?rest_236; (case hr_236 => kernel_rfl); (case hf_236 => kernel_rfl); (case hs_236 => kernel_rfl); (case ho_236 => (simp only [List.getElem?_toArray, List.getElem?_cons_succ, List.getElem?_cons_zero]; rfl)); (case hS_236 => assumption); (case hQ_236 => exact fun _ _ _ h => h); (case hy_236 => (refine Or.inl ⟨by rfl, ?_⟩; (intro w hSw; (try dsimp only at hSw); go_simp) <;> with_reducible rfl)); (try simp only [Act.put, List.setIfInBounds_toArray, List.set_cons_zero, List.set_cons_succ]))
              (refine wpAnyH_take (i := 18) (oi := ?oi_237) (v := ?v_237) ?ho_237 ?hs_237 ?hf_237 ?hr_237 ?hQ_237 ?hy_237 ?hS_237 ?rest_237; (case hr_237 => kernel_rfl); (case hf_237 => kernel_rfl); (case hs_237 => kernel_rfl); (case ho_237 => (simp only [List.getElem?_toArray, List.getElem?_cons_succ, List.getElem?_cons_zero]; rfl)); (case hS_237 => assumption); (case hQ_237 => exact fun _ _ _ h => h); (case hy_237 => (refine Or.inl ⟨by rfl, ?_⟩; (intro w hSw; (try dsimp only at hSw); go_simp) <;> with_reducible rfl)); (try simp only [Act.put, List.setIfInBounds_toArray, List.set_cons_zero, List.set_cons_succ]))
              (refine wpAnyH_take (i := 25) (oi := ?oi_238) (v := ?v_238) ?ho_238 ?hs_238 ?hf_238 ?hr_238 ?hQ_238 ?hy_238 ?hS_238 ?rest_238; (case hr_238 => kernel_rfl); (case hf_238 => kernel_rfl); (case hs_238 => kernel_rfl); (case ho_238 => (simp only [List.getElem?_toArray, List.getElem?_cons_succ, List.getElem?_cons_zero]; rfl)); (case hS_238 => assumption); (case hQ_238 => exact fun _ _ _ h => h); (case hy_238 => (refine Or.inl ⟨by rfl, ?_⟩; (intro w hSw; (try dsimp only at hSw); go_simp) <;> with_reducible rfl)); (try simp only [Act.put, List.setIfInBounds_toArray, List.set_cons_zero, List.set_cons_succ]))
              (refine wpAnyH_take (i := 26) (oi := ?oi_239) (v := ?v_239) ?ho_239 ?hs_239 ?hf_239 ?hr_239 ?hQ_239 ?hy_239 ?hS_239 ?rest_239; (case hr_239 => kernel_rfl); (case hf_239 => kernel_rfl); (case hs_239 => kernel_rfl); (case ho_239 => (simp only [List.getElem?_toArray, List.getElem?_cons_succ, List.getElem?_cons_zero]; rfl)); (case hS_239 => assumption); (case hQ_239 => exact fun _ _ _ h => h); (case hy_239 => (refine Or.inl ⟨by rfl, ?_⟩; (intro w hSw; (try dsimp only at hSw); go_simp) <;> with_reducible rfl)); (try simp only [Act.put, List.setIfInBounds_toArray, List.set_cons_zero, List.set_cons_succ]))
              refine wpAnyH_done (by kernel_rfl) ?_ _
              try rw [hstr]
              go_wp2_with fail
              refine (refSum BB _ (by have := hBBl.out; omega)).mono ?_
              rintro en wa ⟨rfl, hua⟩
              rw [hsm.out]
              go_wp2_with fail
              refine (refField (sm : Int) 4 _ (by omega) (by omega) (by decide)).mono ?_
              rintro en wb ⟨rfl, hub⟩
              have hUb := (hU.trans hua fun _ _ h => h).trans hub fun _ _ h => h
              go_wp2_with fail
              go_ret
              refine ⟨?_, hUb⟩
              rw [app_str, hslot.out]
              simp
        case hs227_1 =>
          intro K hK; have hst := run_str (P := Try.prog) _ 42 9 5 Try.underlying42 Try.underlying5 Try.underlying9 _ _ hB; go_simp; clear hst
          try go_wp2_with fail
          refine hK.out _ _ ?_ (fun hHeld => ?_)
          · (try dsimp only); first | exact ⟨x0, x1, x4⟩ | exact ⟨(Upd.alloc Non _ _).cell x0 fun h => h, (Upd.alloc Non _ _).cell x1 fun h => h, (Upd.alloc Non _ _).cell x4 fun h => h⟩
          clear hK K
          try simp only [Act.put, List.setIfInBounds_toArray, List.set_cons_zero, List.set_cons_succ]
          refine wpAnyH_ready (rs := [9]) (by kernel_rfl) (by simp) ?_
          refine AllReadyH.cons (o := ?oo240_0) ?ho240_0 ?hs240_0 AllReadyH.nil
          case ho240_0 => (simp only [List.getElem?_toArray, List.getElem?_cons_succ, List.getElem?_cons_zero]; rfl)
          case hs240_0 =>
            intro K hK; go_simp; go_at_call 42; refine (refField q 8 _ (by omega) (by omega) (by decide)).mono ?_; rintro en wn ⟨rfl, hu⟩
            have x0 := hu.cell x0 fun h => h; have x1 := hu.cell x1 fun h => h; have x4 := hu.cell x4 fun h => h
            have hU := (by first | exact hU.trans hu fun _ _ h => h | exact (hU.then_drew).trans hu fun _ _ h => h : Upd Non w wn)
            try have hB := hB.non hu
            clear hu
            try go_wp2_with fail
            refine hK.out _ _ ?_ (fun hHeld => ?_)
            · (try dsimp only); first | exact ⟨x0, x1, x4⟩ | exact ⟨(Upd.alloc Non _ _).cell x0 fun h => h, (Upd.alloc Non _ _).cell x1 fun h => h, (Upd.alloc Non _ _).cell x4 fun h => h⟩
            clear hK K
            try simp only [Act.put, List.setIfInBounds_toArray, List.set_cons_zero, List.set_cons_succ]
            (refine wpAnyH_take (i := 10) (oi := ?oi_241) (v := ?v_241) ?ho_241 ?hs_241 ?hf_241 ?hr_241 ?hQ_241 ?hy_241 ?hS_241 ?rest_241; (case hr_241 => kernel_rfl); (case hf_241 => kernel_rfl); (case hs_241 => kernel_rfl); (case ho_241 => (simp only [List.getElem?_toArray, List.getElem?_cons_succ, List.getElem?_cons_zero]; rfl)); (case hS_241 => assumption); (case hQ_241 => exact fun _ _ _ h => h); (case hy_241 => (refine Or.inl ⟨by rfl, ?_⟩; (intro w hSw; (try dsimp only at hSw); go_simp) <;> with_reducible rfl)); (try simp only [Act.put, List.setIfInBounds_toArray, List.set_cons_zero, List.set_cons_succ]))
            refine wpAnyH_ready (rs := [14]) (by kernel_rfl) (by simp) ?_
            refine AllReadyH.cons (o := ?oo242_0) ?ho242_0 ?hs242_0 AllReadyH.nil
            case ho242_0 => (simp only [List.getElem?_toArray, List.getElem?_cons_succ, List.getElem?_cons_zero]; rfl)
            case hs242_0 =>
              intro K hK; go_simp; go_at_call 42; refine (refField (d.length : Int) 2 _ (by omega) (by omega) (by decide)).mono ?_; rintro en wn ⟨rfl, hu⟩
              have x0 := hu.cell x0 fun h => h; have x1 := hu.cell x1 fun h => h; have x4 := hu.cell x4 fun h => h
              have hU := (by first | exact hU.trans hu fun _ _ h => h | exact (hU.then_drew).trans hu fun _ _ h => h : Upd Non w wn)
              try have hB := hB.non hu
              clear hu
              try go_wp2_with fail
              refine hK.out _ _ ?_ (fun hHeld => ?_)
              · (try dsimp only); first | exact ⟨x0, x1, x4⟩ | exact ⟨(Upd.alloc Non _ _).cell x0 fun h => h, (Upd.alloc Non _ _).cell x1 fun h => h, (Upd.alloc Non _ _).cell x4 fun h => h⟩
              clear hK K
              try simp only [Act.put, List.setIfInBounds_toArray, List.set_cons_zero, List.set_cons_succ]
              (refine wpAnyH_take (i := 15) (oi := ?oi_243) (v := ?v_243) ?ho_243 ?hs_243 ?hf_243 ?hr_243 ?hQ_243 ?hy_243 ?hS_243 ?rest_243; (case hr_243 => kernel_rfl); (case hf_243 => kernel_rfl); (case hs_243 => kernel_rfl); (case ho_243 => (simp only [List.getElem?_toArray, List.getElem?_cons_succ, List.getElem?_cons_zero]; rfl)); (case hS_243 => assumption); (case hQ_243 => exact fun _ _ _ h => h); (case hy_243 => (refine Or.inl ⟨by rfl, ?_⟩; (intro w hSw; (try dsimp only at hSw); go_simp) <;> with_reducible rfl)); (try simp only [Act.put, List.setIfInBounds_toArray, List.set_cons_zero, List.set_cons_succ]))
              (refine wpAnyH_take (i := 18) (oi := ?oi_244) (v := ?v_244) ?ho_244 ?hs_244 ?hf_244 ?hr_244 ?hQ_244 ?hy_244 ?hS_244 ?rest_244; (case hr_244 => kernel_rfl); (case hf_244 => kernel_rfl); (case hs_244 => kernel_rfl); (case ho_244 => (simp only [List.getElem?_toArray, List.getElem?_cons_succ, List.getElem?_cons_zero]; rfl)); (case hS_244 => assumption); (case hQ_244 => exact fun _ _ _ h => h); (case hy_244 => (refine Or.inl ⟨by rfl, ?_⟩; (intro w hSw; (try dsimp only at hSw); go_simp) <;> with_reducible rfl)); (try simp only [Act.put, List.setIfInBounds_toArray, List.set_cons_zero, List.set_cons_succ]))
              (refine wpAnyH_take (i := 25) (oi := ?oi_245) (v := ?v_245) ?ho_245 ?hs_245 ?hf_245 ?hr_245 ?hQ_245 ?hy_245 ?hS_245 ?rest_245; (case hr_245 => kernel_rfl); (case hf_245 => kernel_rfl); (case hs_245 => kernel_rfl); (case ho_245 => (simp only [List.getElem?_toArray, List.getElem?_cons_succ, List.getElem?_cons_zero]; rfl)); (case hS_245 => assumption); (case hQ_245 => exact fun _ _ _ h => h); (case hy_245 => (refine Or.inl ⟨by rfl, ?_⟩; (intro w hSw; (try dsimp only at hSw); go_simp) <;> with_reducible rfl)); (try simp only [Act.put, List.setIfInBounds_toArray, List.set_cons_zero, List.set_cons_succ]))
              (refine wpAnyH_take (i := 26) (oi := ?oi_246) (v := ?v_246) ?ho_246 ?hs_246 ?hf_246 ?hr_246 ?hQ_246 ?hy_246 ?hS_246 ?rest_246; (case hr_246 => kernel_rfl); (case hf_246 => kernel_rfl); (case hs_246 => kernel_rfl); (case ho_246 => (simp only [List.getElem?_toArray, List.getElem?_cons_succ, List.getElem?_cons_zero]; rfl)); (case hS_246 => assumption); (case hQ_246 => exact fun _ _ _ h => h); (case hy_246 => (refine Or.inl ⟨by rfl, ?_⟩; (intro w hSw; (try dsimp only at hSw); go_simp) <;> with_reducible rfl)); (try simp only [Act.put, List.setIfInBounds_toArray, List.set_cons_zero, List.set_cons_succ]))
              refine wpAnyH_done (by kernel_rfl) ?_ _
              try rw [hstr]
              go_wp2_with fail
              refine (refSum BB _ (by have := hBBl.out; omega)).mono ?_
              rintro en wa ⟨rfl, hua⟩
              rw [hsm.out]
              go_wp2_with fail
              refine (refField (sm : Int) 4 _ (by omega) (by omega) (by decide)).mono ?_
              rintro en wb ⟨rfl, hub⟩
              have hUb := (hU.trans hua fun _ _ h => h).trans hub fun _ _ h => h
              go_wp2_with fail
              go_ret
              refine ⟨?_, hUb⟩
              rw [app_str, hslot.out]
              simp
      case hs225_1 =>
        intro K hK; have hst := run_str (P := Try.prog) _ 42 9 5 Try.underlying42 Try.underlying5 Try.underlying9 _ _ hB; go_simp; clear hst
        try go_wp2_with fail
        refine hK.out _ _ ?_ (fun hHeld => ?_)
        · (try dsimp only); first | exact ⟨x0, x1, x4⟩ | exact ⟨(Upd.alloc Non _ _).cell x0 fun h => h, (Upd.alloc Non _ _).cell x1 fun h => h, (Upd.alloc Non _ _).cell x4 fun h => h⟩
        clear hK K
        try simp only [Act.put, List.setIfInBounds_toArray, List.set_cons_zero, List.set_cons_succ]
        refine wpAnyH_ready (rs := [5]) (by kernel_rfl) (by simp) ?_
        refine AllReadyH.cons (o := ?oo247_0) ?ho247_0 ?hs247_0 AllReadyH.nil
        case ho247_0 => (simp only [List.getElem?_toArray, List.getElem?_cons_succ, List.getElem?_cons_zero]; rfl)
        case hs247_0 =>
          intro K hK; go_simp; go_at_call 42; refine (refField e 4 _ (by omega) (by omega) (by decide)).mono ?_; rintro en wn ⟨rfl, hu⟩
          have x0 := hu.cell x0 fun h => h; have x1 := hu.cell x1 fun h => h; have x4 := hu.cell x4 fun h => h
          have hU := (by first | exact hU.trans hu fun _ _ h => h | exact (hU.then_drew).trans hu fun _ _ h => h : Upd Non w wn)
          try have hB := hB.non hu
          clear hu
          try go_wp2_with fail
          refine hK.out _ _ ?_ (fun hHeld => ?_)
          · (try dsimp only); first | exact ⟨x0, x1, x4⟩ | exact ⟨(Upd.alloc Non _ _).cell x0 fun h => h, (Upd.alloc Non _ _).cell x1 fun h => h, (Upd.alloc Non _ _).cell x4 fun h => h⟩
          clear hK K
          try simp only [Act.put, List.setIfInBounds_toArray, List.set_cons_zero, List.set_cons_succ]
          (refine wpAnyH_take (i := 6) (oi := ?oi_248) (v := ?v_248) ?ho_248 ?hs_248 ?hf_248 ?hr_248 ?hQ_248 ?hy_248 ?hS_248 ?rest_248; (case hr_248 => kernel_rfl); (case hf_248 => kernel_rfl); (case hs_248 => kernel_rfl); (case ho_248 => (simp only [List.getElem?_toArray, List.getElem?_cons_succ, List.getElem?_cons_zero]; rfl)); (case hS_248 => assumption); (case hQ_248 => exact fun _ _ _ h => h); (case hy_248 => (refine Or.inl ⟨by rfl, ?_⟩; (intro w hSw; (try dsimp only at hSw); go_simp) <;> with_reducible rfl)); (try simp only [Act.put, List.setIfInBounds_toArray, List.set_cons_zero, List.set_cons_succ]))
          refine wpAnyH_ready (rs := [9]) (by kernel_rfl) (by simp) ?_
          refine AllReadyH.cons (o := ?oo249_0) ?ho249_0 ?hs249_0 AllReadyH.nil
          case ho249_0 => (simp only [List.getElem?_toArray, List.getElem?_cons_succ, List.getElem?_cons_zero]; rfl)
          case hs249_0 =>
            intro K hK; go_simp; go_at_call 42; refine (refField q 8 _ (by omega) (by omega) (by decide)).mono ?_; rintro en wn ⟨rfl, hu⟩
            have x0 := hu.cell x0 fun h => h; have x1 := hu.cell x1 fun h => h; have x4 := hu.cell x4 fun h => h
            have hU := (by first | exact hU.trans hu fun _ _ h => h | exact (hU.then_drew).trans hu fun _ _ h => h : Upd Non w wn)
            try have hB := hB.non hu
            clear hu
            try go_wp2_with fail
            refine hK.out _ _ ?_ (fun hHeld => ?_)
            · (try dsimp only); first | exact ⟨x0, x1, x4⟩ | exact ⟨(Upd.alloc Non _ _).cell x0 fun h => h, (Upd.alloc Non _ _).cell x1 fun h => h, (Upd.alloc Non _ _).cell x4 fun h => h⟩
            clear hK K
            try simp only [Act.put, List.setIfInBounds_toArray, List.set_cons_zero, List.set_cons_succ]
            (refine wpAnyH_take (i := 10) (oi := ?oi_250) (v := ?v_250) ?ho_250 ?hs_250 ?hf_250 ?hr_250 ?hQ_250 ?hy_250 ?hS_250 ?rest_250; (case hr_250 => kernel_rfl); (case hf_250 => kernel_rfl); (case hs_250 => kernel_rfl); (case ho_250 => (simp only [List.getElem?_toArray, List.getElem?_cons_succ, List.getElem?_cons_zero]; rfl)); (case hS_250 => assumption); (case hQ_250 => exact fun _ _ _ h => h); (case hy_250 => (refine Or.inl ⟨by rfl, ?_⟩; (intro w hSw; (try dsimp only at hSw); go_simp) <;> with_reducible rfl)); (try simp only [Act.put, List.setIfInBounds_toArray, List.set_cons_zero, List.set_cons_succ]))
            refine wpAnyH_ready (rs := [14]) (by kernel_rfl) (by simp) ?_
            refine AllReadyH.cons (o := ?oo251_0) ?ho251_0 ?hs251_0 AllReadyH.nil
            case ho251_0 => (simp only [List.getElem?_toArray, List.getElem?_cons_succ, List.getElem?_cons_zero]; rfl)
            case hs251_0 =>
              intro K hK; go_simp; go_at_call 42; refine (refField (d.length : Int) 2 _ (by omega) (by omega) (by decide)).mono ?_; rintro en wn ⟨rfl, hu⟩
              have x0 := hu.cell x0 fun h => h; have x1 := hu.cell x1 fun h => h; have x4 := hu.cell x4 fun h => h
              have hU := (by first | exact hU.trans hu fun _ _ h => h | exact (hU.then_drew).trans hu fun _ _ h => h : Upd Non w wn)
              try have hB := hB.non hu
              clear hu
              try go_wp2_with fail
              refine hK.out _ _ ?_ (fun hHeld => ?_)
              · (try dsimp only); first | exact ⟨x0, x1, x4⟩ | exact ⟨(Upd.alloc Non _ _).cell x0 fun h => h, (Upd.alloc Non _ _).cell x1 fun h => h, (Upd.alloc Non _ _).cell x4 fun h => h⟩
              clear hK K
              try simp only [Act.put, List.setIfInBounds_toArray, List.set_cons_zero, List.set_cons_succ]
              (refine wpAnyH_take (i := 15) (oi := ?oi_252) (v := ?v_252) ?ho_252 ?hs_252 ?hf_252 ?hr_252 ?hQ_252 ?hy_252 ?hS_252 ?rest_252; (case hr_252 => kernel_rfl); (case hf_252 => kernel_rfl); (case hs_252 => kernel_rfl); (case ho_252 => (simp only [List.getElem?_toArray, List.getElem?_cons_succ, List.getElem?_cons_zero]; rfl)); (case hS_252 => assumption); (case hQ_252 => exact fun _ _ _ h => h); (case hy_252 => (refine Or.inl ⟨by rfl, ?_⟩; (intro w hSw; (try dsimp only at hSw); go_simp) <;> with_reducible rfl)); (try simp only [Act.put, List.setIfInBounds_toArray, List.set_cons_zero, List.set_cons_succ]))
              (refine wpAnyH_take (i := 18) (oi := ?oi_253) (v := ?v_253) ?ho_253 ?hs_253 ?hf_253 ?hr_253 ?hQ_253 ?hy_253 ?hS_253 ?rest_253; (case hr_253 => kernel_rfl); (case hf_253 => kernel_rfl); (case hs_253 => kernel_rfl); (case ho_253 => (simp only [List.getElem?_toArray, List.getElem?_cons_succ, List.getElem?_cons_zero]; rfl)); (case hS_253 => assumption); (case hQ_253 => exact fun _ _ _ h => h); (case hy_253 => (refine Or.inl ⟨by rfl, ?_⟩; (intro w hSw; (try dsimp only at hSw); go_simp) <;> with_reducible rfl)); (try simp only [Act.put, List.setIfInBounds_toArray, List.set_cons_zero, List.set_cons_succ]))
              (refine wpAnyH_take (i := 25) (oi := ?oi_254) (v := ?v_254) ?ho_254 ?hs_254 ?hf_254 ?hr_254 ?hQ_254 ?hy_254 ?hS_254 ?rest_254; (case hr_254 => kernel_rfl); (case hf_254 => kernel_rfl); (case hs_254 => kernel_rfl); (case ho_254 => (simp only [List.getElem?_toArray, List.getElem?_cons_succ, List.getElem?_cons_zero]; rfl)); (case hS_254 => assumption); (case hQ_254 => exact fun _ _ _ h => h); (case hy_254 => (refine Or.inl ⟨by rfl, ?_⟩; (intro w hSw; (try dsimp only at hSw); go_simp) <;> with_reducible rfl)); (try simp only [Act.put, List.setIfInBounds_toArray, List.set_cons_zero, List.set_cons_succ]))
              (refine wpAnyH_take (i := 26) (oi := ?oi_255) (v := ?v_255) ?ho_255 ?hs_255 ?hf_255 ?hr_255 ?hQ_255 ?hy_255 ?hS_255 ?rest_255; (case hr_255 => kernel_rfl); (case hf_255 => kernel_rfl); (case hs_255 => kernel_rfl); (case ho_255 => (simp only [List.getElem?_toArray, List.getElem?_cons_succ, List.getElem?_cons_zero]; rfl)); (case hS_255 => assumption); (case hQ_255 => exact fun _ _ _ h => h); (case hy_255 => (refine Or.inl ⟨by rfl, ?_⟩; (intro w hSw; (try dsimp only at hSw); go_simp) <;> with_reducible rfl)); (try simp only [Act.put, List.setIfInBounds_toArray, List.set_cons_zero, List.set_cons_succ]))
              refine wpAnyH_done (by kernel_rfl) ?_ _
              try rw [hstr]
              go_wp2_with fail
              refine (refSum BB _ (by have := hBBl.out; omega)).mono ?_
              rintro en wa ⟨rfl, hua⟩
              rw [hsm.out]
              go_wp2_with fail
              refine (refField (sm : Int) 4 _ (by omega) (by omega) (by decide)).mono ?_
              rintro en wb ⟨rfl, hub⟩
              have hUb := (hU.trans hua fun _ _ h => h).trans hub fun _ _ h => h
              go_wp2_with fail
              go_ret
              refine ⟨?_, hUb⟩
              rw [app_str, hslot.out]
              simp
    case hs223_1 =>
      intro K hK; have hst := run_str (P := Try.prog) _ 42 9 5 Try.underlying42 Try.underlying5 Try.underlying9 _ _ (show Bytes (((w.alloc (.cells #[.int .i64 e, .int .i64 q, .bool true, .bool false, .string ⟨d.toArray⟩] 41)).alloc (.cells (Array.replicate (108 - d.length) (.int .u8 0)) 5)).drew) (.slice (some ⟨w.heap.size + 1, 0, none⟩) (108 - d.length) (108 - d.length)) (List.replicate (108 - d.length) 0) from hB); go_simp; clear hst
      try go_wp2_with fail
      refine hK.out _ _ ?_ (fun hHeld => ?_)
      · (try dsimp only); first | exact ⟨x0, x1, x4⟩ | exact ⟨(Upd.alloc Non _ _).cell x0 fun h => h, (Upd.alloc Non _ _).cell x1 fun h => h, (Upd.alloc Non _ _).cell x4 fun h => h⟩
      clear hK K
      try simp only [Act.put, List.setIfInBounds_toArray, List.set_cons_zero, List.set_cons_succ]
      refine wpAnyH_ready (rs := [1]) (by kernel_rfl) (by simp) ?_
      refine AllReadyH.cons (o := ?oo256_0) ?ho256_0 ?hs256_0 AllReadyH.nil
      case ho256_0 => (simp only [List.getElem?_toArray, List.getElem?_cons_succ, List.getElem?_cons_zero]; rfl)
      case hs256_0 =>
        intro K hK; go_simp; go_at_call 42; refine (refField 1 1 _ (by omega) (by omega) (by decide)).mono ?_; rintro en wn ⟨rfl, hu⟩
        have x0 := hu.cell x0 fun h => h; have x1 := hu.cell x1 fun h => h; have x4 := hu.cell x4 fun h => h
        have hU := (by first | exact hU.trans hu fun _ _ h => h | exact (hU.then_drew).trans hu fun _ _ h => h : Upd Non w wn)
        try have hB := hB.non hu
        clear hu
        try go_wp2_with fail
        refine hK.out _ _ ?_ (fun hHeld => ?_)
        · (try dsimp only); first | exact ⟨x0, x1, x4⟩ | exact ⟨(Upd.alloc Non _ _).cell x0 fun h => h, (Upd.alloc Non _ _).cell x1 fun h => h, (Upd.alloc Non _ _).cell x4 fun h => h⟩
        clear hK K
        try simp only [Act.put, List.setIfInBounds_toArray, List.set_cons_zero, List.set_cons_succ]
        (refine wpAnyH_take (i := 2) (oi := ?oi_257) (v := ?v_257) ?ho_257 ?hs_257 ?hf_257 ?hr_257 ?hQ_257 ?hy_257 ?hS_257 ?rest_257; (case hr_257 => kernel_rfl); (case hf_257 => kernel_rfl); (case hs_257 => kernel_rfl); (case ho_257 => (simp only [List.getElem?_toArray, List.getElem?_cons_succ, List.getElem?_cons_zero]; rfl)); (case hS_257 => assumption); (case hQ_257 => exact fun _ _ _ h => h); (case hy_257 => (refine Or.inl ⟨by rfl, ?_⟩; (intro w hSw; (try dsimp only at hSw); go_simp) <;> with_reducible rfl)); (try simp only [Act.put, List.setIfInBounds_toArray, List.set_cons_zero, List.set_cons_succ]))
        refine wpAnyH_ready (rs := [5]) (by kernel_rfl) (by simp) ?_
        refine AllReadyH.cons (o := ?oo258_0) ?ho258_0 ?hs258_0 AllReadyH.nil
        case ho258_0 => (simp only [List.getElem?_toArray, List.getElem?_cons_succ, List.getElem?_cons_zero]; rfl)
        case hs258_0 =>
          intro K hK; go_simp; go_at_call 42; refine (refField e 4 _ (by omega) (by omega) (by decide)).mono ?_; rintro en wn ⟨rfl, hu⟩
          have x0 := hu.cell x0 fun h => h; have x1 := hu.cell x1 fun h => h; have x4 := hu.cell x4 fun h => h
          have hU := (by first | exact hU.trans hu fun _ _ h => h | exact (hU.then_drew).trans hu fun _ _ h => h : Upd Non w wn)
          try have hB := hB.non hu
          clear hu
          try go_wp2_with fail
          refine hK.out _ _ ?_ (fun hHeld => ?_)
          · (try dsimp only); first | exact ⟨x0, x1, x4⟩ | exact ⟨(Upd.alloc Non _ _).cell x0 fun h => h, (Upd.alloc Non _ _).cell x1 fun h => h, (Upd.alloc Non _ _).cell x4 fun h => h⟩
          clear hK K
          try simp only [Act.put, List.setIfInBounds_toArray, List.set_cons_zero, List.set_cons_succ]
          (refine wpAnyH_take (i := 6) (oi := ?oi_259) (v := ?v_259) ?ho_259 ?hs_259 ?hf_259 ?hr_259 ?hQ_259 ?hy_259 ?hS_259 ?rest_259; (case hr_259 => kernel_rfl); (case hf_259 => kernel_rfl); (case hs_259 => kernel_rfl); (case ho_259 => (simp only [List.getElem?_toArray, List.getElem?_cons_succ, List.getElem?_cons_zero]; rfl)); (case hS_259 => assumption); (case hQ_259 => exact fun _ _ _ h => h); (case hy_259 => (refine Or.inl ⟨by rfl, ?_⟩; (intro w hSw; (try dsimp only at hSw); go_simp) <;> with_reducible rfl)); (try simp only [Act.put, List.setIfInBounds_toArray, List.set_cons_zero, List.set_cons_succ]))
          refine wpAnyH_ready (rs := [9]) (by kernel_rfl) (by simp) ?_
          refine AllReadyH.cons (o := ?oo260_0) ?ho260_0 ?hs260_0 AllReadyH.nil
          case ho260_0 => (simp only [List.getElem?_toArray, List.getElem?_cons_succ, List.getElem?_cons_zero]; rfl)
          case hs260_0 =>
            intro K hK; go_simp; go_at_call 42; refine (refField q 8 _ (by omega) (by omega) (by decide)).mono ?_; rintro en wn ⟨rfl, hu⟩
            have x0 := hu.cell x0 fun h => h; have x1 := hu.cell x1 fun h => h; have x4 := hu.cell x4 fun h => h
            have hU := (by first | exact hU.trans hu fun _ _ h => h | exact (hU.then_drew).trans hu fun _ _ h => h : Upd Non w wn)
            try have hB := hB.non hu
            clear hu
            try go_wp2_with fail
            refine hK.out _ _ ?_ (fun hHeld => ?_)
            · (try dsimp only); first | exact ⟨x0, x1, x4⟩ | exact ⟨(Upd.alloc Non _ _).cell x0 fun h => h, (Upd.alloc Non _ _).cell x1 fun h => h, (Upd.alloc Non _ _).cell x4 fun h => h⟩
            clear hK K
            try simp only [Act.put, List.setIfInBounds_toArray, List.set_cons_zero, List.set_cons_succ]
            (refine wpAnyH_take (i := 10) (oi := ?oi_261) (v := ?v_261) ?ho_261 ?hs_261 ?hf_261 ?hr_261 ?hQ_261 ?hy_261 ?hS_261 ?rest_261; (case hr_261 => kernel_rfl); (case hf_261 => kernel_rfl); (case hs_261 => kernel_rfl); (case ho_261 => (simp only [List.getElem?_toArray, List.getElem?_cons_succ, List.getElem?_cons_zero]; rfl)); (case hS_261 => assumption); (case hQ_261 => exact fun _ _ _ h => h); (case hy_261 => (refine Or.inl ⟨by rfl, ?_⟩; (intro w hSw; (try dsimp only at hSw); go_simp) <;> with_reducible rfl)); (try simp only [Act.put, List.setIfInBounds_toArray, List.set_cons_zero, List.set_cons_succ]))
            refine wpAnyH_ready (rs := [14]) (by kernel_rfl) (by simp) ?_
            refine AllReadyH.cons (o := ?oo262_0) ?ho262_0 ?hs262_0 AllReadyH.nil
            case ho262_0 => (simp only [List.getElem?_toArray, List.getElem?_cons_succ, List.getElem?_cons_zero]; rfl)
            case hs262_0 =>
              intro K hK; go_simp; go_at_call 42; refine (refField (d.length : Int) 2 _ (by omega) (by omega) (by decide)).mono ?_; rintro en wn ⟨rfl, hu⟩
              have x0 := hu.cell x0 fun h => h; have x1 := hu.cell x1 fun h => h; have x4 := hu.cell x4 fun h => h
              have hU := (by first | exact hU.trans hu fun _ _ h => h | exact (hU.then_drew).trans hu fun _ _ h => h : Upd Non w wn)
              try have hB := hB.non hu
              clear hu
              try go_wp2_with fail
              refine hK.out _ _ ?_ (fun hHeld => ?_)
              · (try dsimp only); first | exact ⟨x0, x1, x4⟩ | exact ⟨(Upd.alloc Non _ _).cell x0 fun h => h, (Upd.alloc Non _ _).cell x1 fun h => h, (Upd.alloc Non _ _).cell x4 fun h => h⟩
              clear hK K
              try simp only [Act.put, List.setIfInBounds_toArray, List.set_cons_zero, List.set_cons_succ]
              (refine wpAnyH_take (i := 15) (oi := ?oi_263) (v := ?v_263) ?ho_263 ?hs_263 ?hf_263 ?hr_263 ?hQ_263 ?hy_263 ?hS_263 ?rest_263; (case hr_263 => kernel_rfl); (case hf_263 => kernel_rfl); (case hs_263 => kernel_rfl); (case ho_263 => (simp only [List.getElem?_toArray, List.getElem?_cons_succ, List.getElem?_cons_zero]; rfl)); (case hS_263 => assumption); (case hQ_263 => exact fun _ _ _ h => h); (case hy_263 => (refine Or.inl ⟨by rfl, ?_⟩; (intro w hSw; (try dsimp only at hSw); go_simp) <;> with_reducible rfl)); (try simp only [Act.put, List.setIfInBounds_toArray, List.set_cons_zero, List.set_cons_succ]))
              (refine wpAnyH_take (i := 18) (oi := ?oi_264) (v := ?v_264) ?ho_264 ?hs_264 ?hf_264 ?hr_264 ?hQ_264 ?hy_264 ?hS_264 ?rest_264; (case hr_264 => kernel_rfl); (case hf_264 => kernel_rfl); (case hs_264 => kernel_rfl); (case ho_264 => (simp only [List.getElem?_toArray, List.getElem?_cons_succ, List.getElem?_cons_zero]; rfl)); (case hS_264 => assumption); (case hQ_264 => exact fun _ _ _ h => h); (case hy_264 => (refine Or.inl ⟨by rfl, ?_⟩; (intro w hSw; (try dsimp only at hSw); go_simp) <;> with_reducible rfl)); (try simp only [Act.put, List.setIfInBounds_toArray, List.set_cons_zero, List.set_cons_succ]))
              (refine wpAnyH_take (i := 25) (oi := ?oi_265) (v := ?v_265) ?ho_265 ?hs_265 ?hf_265 ?hr_265 ?hQ_265 ?hy_265 ?hS_265 ?rest_265; (case hr_265 => kernel_rfl); (case hf_265 => kernel_rfl); (case hs_265 => kernel_rfl); (case ho_265 => (simp only [List.getElem?_toArray, List.getElem?_cons_succ, List.getElem?_cons_zero]; rfl)); (case hS_265 => assumption); (case hQ_265 => exact fun _ _ _ h => h); (case hy_265 => (refine Or.inl ⟨by rfl, ?_⟩; (intro w hSw; (try dsimp only at hSw); go_simp) <;> with_reducible rfl)); (try simp only [Act.put, List.setIfInBounds_toArray, List.set_cons_zero, List.set_cons_succ]))
              (refine wpAnyH_take (i := 26) (oi := ?oi_266) (v := ?v_266) ?ho_266 ?hs_266 ?hf_266 ?hr_266 ?hQ_266 ?hy_266 ?hS_266 ?rest_266; (case hr_266 => kernel_rfl); (case hf_266 => kernel_rfl); (case hs_266 => kernel_rfl); (case ho_266 => (simp only [List.getElem?_toArray, List.getElem?_cons_succ, List.getElem?_cons_zero]; rfl)); (case hS_266 => assumption); (case hQ_266 => exact fun _ _ _ h => h); (case hy_266 => (refine Or.inl ⟨by rfl, ?_⟩; (intro w hSw; (try dsimp only at hSw); go_simp) <;> with_reducible rfl)); (try simp only [Act.put, List.setIfInBounds_toArray, List.set_cons_zero, List.set_cons_succ]))
              refine wpAnyH_done (by kernel_rfl) ?_ _
              try rw [hstr]
              go_wp2_with fail
              refine (refSum BB _ (by have := hBBl.out; omega)).mono ?_
              rintro en wa ⟨rfl, hua⟩
              rw [hsm.out]
              go_wp2_with fail
              refine (refField (sm : Int) 4 _ (by omega) (by omega) (by decide)).mono ?_
              rintro en wb ⟨rfl, hub⟩
              have hUb := (hU.trans hua fun _ _ h => h).trans hub fun _ _ h => h
              go_wp2_with fail
              go_ret
              refine ⟨?_, hUb⟩
              rw [app_str, hslot.out]
              simp
end Go.Proofs.Ytiadbijholnbjaa
