/- wire.reader: rest, tag. -/
import Derived.Test.YtogekobpjjmnjaaGreatMWrM
import Derived.Test.YtogekobpjjmnjaaGreatMFR
import Derived.Test.YtogekobpjjmnjaaGreatMBlA
import Derived.Test.YtogekobpjjmnjaaGreatMWrP
namespace Go.Proofs.YtogekobpjjmnjaaGreat
open Go.RowKit Go.Amb
set_option linter.unusedVariables false
set_option linter.unusedSimpArgs false
set_option maxRecDepth 100000
variable {L : Nat}
attribute [local go_sem ↓] Go.wp_at_zero Go.wp_at_succ
def rdRest (s : List UInt8) (a : Nat) (e : Int) (n : Nat) : Nat × Int × List UInt8 :=
  if n = 0 then (a, e, []) else if e = 0 then (if a + n ≤ s.length then (a + n, 0, (s.drop a).take n) else (s.length, 3, [])) else (a, e, [])
theorem rdRest_zero (s : List UInt8) (a : Nat) (e : Int) : rdRest s a e 0 = (a, e, []) := rfl
theorem rdRest_err {s : List UInt8} {a : Nat} {e : Int} (n : Nat) (h : ¬ e = 0) : rdRest s a e n = (a, e, []) := by unfold rdRest; split <;> rfl
theorem rdRest_ok {s : List UInt8} {a n : Nat} (h : a + n ≤ s.length) : rdRest s a 0 n = (a + n, 0, (s.drop a).take n) := by
  unfold rdRest
  rw [if_pos rfl, if_pos h]
  by_cases hn : n = 0
  · subst hn; simp
  · rw [if_neg hn]
theorem rdRest_short {s : List UInt8} {a n : Nat} (h : ¬ a + n ≤ s.length) (ha : a ≤ s.length) : rdRest s a 0 n = (s.length, 3, []) := by
  unfold rdRest
  rw [if_neg (by omega), if_pos rfl, if_neg h]
theorem run_make64 (w : World) : (Instr.makeSlice 22 (.int .i64 0) (.int .i64 64)).run Tryz.prog w = .ok (.slice (some ⟨w.heap.size, 0, none⟩) 0 64) (w.alloc (.cells (Array.replicate 64 (.int .u8 0)) 5)) := by
  obtain ⟨i, hi, hz0, hsz, hby⟩ := info_parts (show (Tryz.prog.info? 5).map (fun i => (i.zero, i.size, i.bytes)) = some (some (.int .u8 0), 1, 1) from rfl)
  have hr := run_make (P := Tryz.prog) w 22 5 i (.int .u8 0) Tryz.underlying22 hi hz0 .i64 .i64 0 64 (by omega) (by omega) (by rw [hby]; decide) (by omega)
  rw [hr, hsz]
  have e : madeCells (Value.int IntKind.u8 0).cells (Int.toNat 64 * 1) = Array.replicate 64 (.int .u8 0) := by
    apply Array.ext_getElem?
    intro k
    simp only [madeCells, Array.getElem?_map, Array.getElem?_range, Array.getElem?_replicate]
    have e64 : Int.toNat 64 * 1 = 64 := rfl
    have ec : (Value.int IntKind.u8 0).cells = #[.int .u8 0] := rfl
    rw [e64, ec]
    by_cases hk : k < 64 <;> simp [hk, Nat.mod_one]
  rw [e]
  rfl
theorem own64 (w : World) (base : Nat) (hb : base ≤ w.heap.size) : Own (w.alloc (.cells (Array.replicate 64 (.int .u8 0)) 5)) base 5 (.slice (some ⟨w.heap.size, 0, none⟩) 0 64) [] :=
  ⟨rfl, .inr ⟨w.heap.size, 64, Array.replicate 64 (.int .u8 0), rfl, hb, heap_alloc_new _ _, Nat.zero_le _, by unfold maxLen; omega, by simp, rfl⟩⟩
theorem one_byte {s : List UInt8} {a : Nat} (h : a < s.length) : rdNum s a 0 1 = (a + 1, 0, (s[a].toNat : Int)) := by
  rw [rdNum_ok (by omega)]
  have e : (s.drop a).take 1 = [s[a]] := by have := take_drop_succ s a 0 (by omega); simpa using this
  have := s[a].toNat_lt
  rw [e]
  congr 2
  unfold numL
  rw [List.foldl_cons, List.foldl_nil, IntWalk.wrap64_in _ ⟨by omega, by omega⟩]
  simp
def rdV1 (r : Nat) : Value := .agg #[.pointer (some ⟨r, 0, none⟩)]
set_option maxHeartbeats 2000000 in
theorem wRest (r : Nat) (s : List UInt8) (a : Nat) (e : Int) (n : Nat) (w : World) (h : RdAt w r L s a e) (hn : n ≤ 70000) :
    Calls Tryz.prog 94 #[rdV1 r, .int .i64 (n : Int)] w (Rdd r L s (rdRest s a e n).1 (rdRest s a e n).2.1 (.string ⟨(rdRest s a e n).2.2.toArray⟩) w) := by
  have hi := Lib.hid (@info_u8)
  have hle := h.le
  unfold rdV1
  by_cases he : e = 0
  · subst he
    have hlt := h.lt
    have hmk := run_make64
    have y0 := (cells_of (heap_alloc_new w (.cells #[.pointer (some ⟨r, 0, none⟩)] 50))).1 0
    have hu1 : Upd (fun k => k = r) w (w.alloc (.cells #[.pointer (some ⟨r, 0, none⟩)] 50)) := Upd.alloc _ _ _
    have h1 : RdAt (w.alloc (.cells #[.pointer (some ⟨r, 0, none⟩)] 50)) r L s a _ := h.non (Upd.alloc _ _ _)
    have hz1 : (w.alloc (.cells #[.pointer (some ⟨r, 0, none⟩)] 50)).heap.size = w.heap.size + 1 := by simp
    obtain ⟨w1, hw1⟩ : ∃ w1, w.alloc (.cells #[.pointer (some ⟨r, 0, none⟩)] 50) = w1 := ⟨_, rfl⟩
    have y0w : w1.cell? ⟨w.heap.size, 0, none⟩ = some (.pointer (some ⟨r, 0, none⟩)) := by rw [← hw1]; exact y0
    clear y0
    rw [hw1] at hu1 h1 hz1
    have ho1 := own64 w1 (w.heap.size + 1) (by omega)
    have hu2 : Upd (fun k => k = r) w (w1.alloc (.cells (Array.replicate 64 (.int .u8 0)) 5)) := hu1.then_alloc _
    have h2 : RdAt (w1.alloc (.cells (Array.replicate 64 (.int .u8 0)) 5)) r L s a _ := h1.non (Upd.alloc _ _ _)
    have y2 := (Upd.alloc Non w1 (.cells (Array.replicate 64 (.int .u8 0)) 5)).cell y0w fun h => h
    have hz2 : (w1.alloc (.cells (Array.replicate 64 (.int .u8 0)) 5)).heap.size = w.heap.size + 2 := by simp; omega
    rw [hz1] at ho1
    have hmk1 := hmk w1
    rw [hz1] at hmk1
    obtain ⟨w2, hw2⟩ : ∃ w2, w1.alloc (.cells (Array.replicate 64 (.int .u8 0)) 5) = w2 := ⟨_, rfl⟩
    rw [hw2] at ho1 hu2 h2 y2 hz2 hmk1
    clear hw2 hu1 h1 hmk
    have hfin : Hid (∀ w', RdAt w' r L s (rdRest s a 0 n).1 (rdRest s a 0 n).2.1 → Upd (fun k => k = r) w w' → Rdd r L s (rdRest s a 0 n).1 (rdRest s a 0 n).2.1 (.string ⟨(rdRest s a 0 n).2.2.toArray⟩) w (.returned (.string ⟨(rdRest s a 0 n).2.2.toArray⟩)) w') := Lib.hid (fun w' h1 h2 => ⟨rfl, h1, h2⟩)
    have hok : Hid (a + n ≤ s.length → rdRest s a 0 n = (a + n, 0, (s.drop a).take n)) := Lib.hid rdRest_ok
    have hsh : Hid (¬ a + n ≤ s.length → rdRest s a 0 n = (s.length, 3, [])) := Lib.hid (fun hx => rdRest_short hx hle)
    generalize rdRest s a 0 n = R at *
    obtain ⟨PR, hPR⟩ : ∃ PR, Rdd r L s R.1 R.2.1 (.string ⟨R.2.2.toArray⟩) w = PR := ⟨_, rfl⟩
    rw [hPR] at hfin ⊢
    clear hPR h
    have hrz := hlt
    clear hlt
    go_enter Tryz.func94, Tryz.ntmps94
    go_wp2_with fail
    go_loopw [5, 9] (fun bv iv wr => ∃ k : Nat, iv = .int .i64 (k : Int) ∧ k ≤ n ∧ Own wr (w.heap.size + 1) 5 bv ((s.drop a).take k) ∧ RdAt wr r L s (a + k) 0 ∧ wr.cell? ⟨w.heap.size, 0, none⟩ = some (.pointer (some ⟨r, 0, none⟩)) ∧ Upd (fun j => j = r) w wr) (fun _ iv _ => n - (intOf iv).toNat)
    case atStart => exact ⟨0, rfl, Nat.zero_le _, ho1, h2, y2, hu2⟩
    case round =>
      clear ho1 h2 y2 hu2 hmk1 hz2 y0w hz1 hw1
      obtain ⟨k, rfl, hk, ho, hR, y0, hu⟩ := hrel
      have hz := World.block_lt_of_cell? _ _ y0
      dsimp only at hz
      by_cases hlt : k < n
      · have hltI : (k : Int) < (n : Int) := by omega
        have cU := Lib.hid (fU8 r s (a + k) 0 wr hR)
        by_cases hs : a + k < s.length
        · rw [one_byte hs] at cU
          have htk := take_drop_succ s a k hs
          have hbt := s[a + k].toNat_lt
          generalize hx : s[a + k] = x at *
          go_wp2_with fail
          refine cU.out.mono ?_
          rintro en w3 ⟨rfl, hR3, hu3⟩
          try dsimp only at hR3
          have ho3 := hu3.owns ho (fun j hj e => by have := own_ge ho hj; omega)
          have y3 := hu3.cell y0 (by dsimp only; omega)
          have cE := Lib.hid (fErr r s (a + k + 1) 0 w3 hR3)
          clear cU ho hR y0
          go_wp2_with fail
          refine cE.out.mono ?_
          rintro en w4 ⟨rfl, rfl⟩
          have hz3 := hu3.size
          have hl63 : ((s.drop a).take k).length ≤ 70000 := by rw [List.length_take]; omega
          go_wp2_with (at_builtin; go_must (refine wpList_app1 rfl _ _ 22 rfl (w.heap.size + 1) 5 (.int .u8 0) 1 1 Tryz.underlying22 hi.out rfl _ _ _ rfl ho3 [.int .u8 _] rfl rfl ?h1c ?h63 ?hby (by omega) ?_))
          case h1c => intro u hu; rw [List.mem_singleton] at hu; subst hu; rfl
          case h63 => unfold maxLen; omega
          case hby => omega
          intro v' w' ho' hu' hf'
          have ho4 : Own w' (w.heap.size + 1) 5 v' ((s.drop a).take (k + 1)) := by
            rw [htk]
            refine own_snoc ho' ?_
            first | rfl | (rw [IntKind.wrap_u8]; omega) | skip
          have hR4 : RdAt w' r L s (a + (k + 1)) 0 := hR3.upd hu' fun j _ hj => .inr (by have := own_ge ho3 hj; omega)
          have y4 := hu'.cell y3 (fun h => by have := own_ge ho3 h; dsimp only at this; omega)
          have hu4 := (hu.trans hu3 fun _ _ h => h).trans hu' fun j hj h => by have := own_ge ho3 h; omega
          clear ho3 hR3 y3 hu3 hu' ho' hf' cE
          go_wp2_with fail
          go_roundw
          case rel => exact ⟨k + 1, by go_num, by omega, ho4, hR4, y4, hu4⟩
          case measure => simp [intOf]; omega
        · rw [rdNum_short (by omega)] at cU
          obtain hak : a + k = s.length := by have := hR.le; omega
          have hR' := hsh.out (by omega)
          subst hR'
          go_wp2_with fail
          refine cU.out.mono ?_
          rintro en w3 ⟨rfl, hR3, hu3⟩
          have y3 := hu3.cell y0 (by dsimp only; omega)
          have cE := Lib.hid (fErr r s (a + k) 3 w3 hR3)
          have hg := hfin.out w3 (by rw [← hak]; exact hR3) (hu.trans hu3 fun _ _ h => h)
          clear cU ho hR y0 hR3
          go_wp2_with fail
          refine cE.out.mono ?_
          rintro en w4 ⟨rfl, rfl⟩
          clear cE y3 hu3
          go_wp2_with fail
          exact hg
      · have hltI : ¬ (k : Int) < (n : Int) := by omega
        obtain rfl : k = n := by omega
        have hR' := hok.out hR.le
        subst hR'
        have hg := hfin.out wr hR hu
        have hstr := run_str (P := Tryz.prog) _ 22 9 5 Tryz.underlying22 Tryz.underlying5 Tryz.underlying9 _ _ ho.bytes
        clear hfin hR hu hok hsh
        go_wp2_with fail
        exact hg
  · rw [rdRest_err n he]
    have hlt := h.lt
    have hmk := run_make64
    have y0 := (cells_of (heap_alloc_new w (.cells #[.pointer (some ⟨r, 0, none⟩)] 50))).1 0
    have hu1 : Upd (fun k => k = r) w (w.alloc (.cells #[.pointer (some ⟨r, 0, none⟩)] 50)) := Upd.alloc _ _ _
    have h1 : RdAt (w.alloc (.cells #[.pointer (some ⟨r, 0, none⟩)] 50)) r L s a _ := h.non (Upd.alloc _ _ _)
    have hz1 : (w.alloc (.cells #[.pointer (some ⟨r, 0, none⟩)] 50)).heap.size = w.heap.size + 1 := by simp
    obtain ⟨w1, hw1⟩ : ∃ w1, w.alloc (.cells #[.pointer (some ⟨r, 0, none⟩)] 50) = w1 := ⟨_, rfl⟩
    have y0w : w1.cell? ⟨w.heap.size, 0, none⟩ = some (.pointer (some ⟨r, 0, none⟩)) := by rw [← hw1]; exact y0
    clear y0
    rw [hw1] at hu1 h1 hz1
    have ho1 := own64 w1 (w.heap.size + 1) (by omega)
    have hu2 : Upd (fun k => k = r) w (w1.alloc (.cells (Array.replicate 64 (.int .u8 0)) 5)) := hu1.then_alloc _
    have h2 : RdAt (w1.alloc (.cells (Array.replicate 64 (.int .u8 0)) 5)) r L s a _ := h1.non (Upd.alloc _ _ _)
    have y2 := (Upd.alloc Non w1 (.cells (Array.replicate 64 (.int .u8 0)) 5)).cell y0w fun h => h
    have hz2 : (w1.alloc (.cells (Array.replicate 64 (.int .u8 0)) 5)).heap.size = w.heap.size + 2 := by simp; omega
    rw [hz1] at ho1
    have hmk1 := hmk w1
    rw [hz1] at hmk1
    obtain ⟨w2, hw2⟩ : ∃ w2, w1.alloc (.cells (Array.replicate 64 (.int .u8 0)) 5) = w2 := ⟨_, rfl⟩
    rw [hw2] at ho1 hu2 h2 y2 hz2 hmk1
    clear hw2 hu1 h1 hmk
    have hfin : Hid (∀ w', RdAt w' r L s a e → Upd (fun k => k = r) w w' → Rdd r L s a e (.string ⟨#[]⟩) w (.returned (.string ⟨#[]⟩)) w') := Lib.hid (fun w' h1 h2 => ⟨rfl, h1, h2⟩)
    obtain ⟨PR, hPR⟩ : ∃ PR, Rdd r L s a e (.string ⟨#[]⟩) w = PR := ⟨_, rfl⟩
    rw [hPR] at hfin
    show Calls _ _ _ _ (Rdd r L s a e (.string ⟨#[]⟩) w)
    rw [hPR]
    clear hPR h
    have hrz := hlt
    have hne : (e != 0) = true := by simp [he]
    clear hlt
    by_cases hn0 : n = 0
    · subst hn0
      have hg := hfin.out w2 h2 hu2
      have hstr := run_str (P := Tryz.prog) _ 22 9 5 Tryz.underlying22 Tryz.underlying5 Tryz.underlying9 _ _ ho1.bytes
      go_enter Tryz.func94, Tryz.ntmps94
      go_wp2_with fail
      go_loopw [5, 9] (fun bv iv wr => bv = .slice (some ⟨w.heap.size + 1, 0, none⟩) 0 64 ∧ iv = .int .i64 0 ∧ wr = w2) (fun _ _ _ => 0)
      case atStart => exact ⟨rfl, rfl, rfl⟩
      case round =>
        obtain ⟨rfl, rfl, rfl⟩ := hrel
        go_wp2_with fail
        exact hg
    · have hnI : (0 : Int) < (n : Int) := by omega
      have cU := Lib.hid (fU8 r s a e w2 h2)
      rw [rdNum_err he] at cU
      go_enter Tryz.func94, Tryz.ntmps94
      go_wp2_with fail
      go_loopw [5, 9] (fun bv iv wr => bv = .slice (some ⟨w.heap.size + 1, 0, none⟩) 0 64 ∧ iv = .int .i64 0 ∧ wr = w2) (fun _ _ _ => 0)
      case atStart => exact ⟨rfl, rfl, rfl⟩
      case round =>
        obtain ⟨rfl, rfl, rfl⟩ := hrel
        go_wp2_with fail
        refine cU.out.mono ?_
        rintro en w3 ⟨rfl, hR3, hu3⟩
        have y3 := hu3.cell y2 (by dsimp only; omega)
        have cE := Lib.hid (fErr r s a e w3 hR3)
        have hg := hfin.out w3 hR3 (hu2.trans hu3 fun _ _ h => h)
        clear cU hR3
        go_wp2_with fail
        refine cE.out.mono ?_
        rintro en w4 ⟨rfl, rfl⟩
        clear cE y3 hu3
        go_wp2_with fail
        exact hg
end Go.Proofs.YtogekobpjjmnjaaGreat

namespace Go.Proofs.YtogekobpjjmnjaaGreat
open Go.RowKit Go.Amb
set_option linter.unusedVariables false
set_option linter.unusedSimpArgs false
set_option maxRecDepth 100000
variable {L : Nat}
attribute [local go_sem ↓] Go.wp_at_zero Go.wp_at_succ
def rdTag (s : List UInt8) (a : Nat) (e : Int) : Nat × Int × Int × Int :=
  ((rdNum s (rdNum s a e 4).1 (rdNum s a e 4).2.1 4).1, (rdNum s (rdNum s a e 4).1 (rdNum s a e 4).2.1 4).2.1, (rdNum s a e 4).2.2, (rdNum s (rdNum s a e 4).1 (rdNum s a e 4).2.1 4).2.2)
set_option maxHeartbeats 2000000 in
theorem wTag (r : Nat) (s : List UInt8) (a : Nat) (e : Int) (w : World) (h : RdAt w r L s a e) :
    Calls Tryz.prog 12 #[rdV1 r] w (Rdd r L s (rdTag s a e).1 (rdTag s a e).2.1 (tagV (rdTag s a e).2.2.1 (rdTag s a e).2.2.2) w) := by
  have hlt := h.lt
  have c1 := Lib.hid (fun w h => fU32 (L := L) r s a e w h)
  have c2 := Lib.hid (fun w h => fU32 (L := L) r s (rdNum s a e 4).1 (rdNum s a e 4).2.1 w h)
  unfold rdTag tagV rdV1
  dsimp only
  generalize rdNum s a e 4 = x at *
  obtain ⟨a1, e1, n1⟩ := x
  dsimp only at *
  generalize rdNum s a1 e1 4 = x at *
  obtain ⟨a2, e2, n2⟩ := x
  dsimp only at *
  have y0 : ((w.alloc (.cells #[.pointer (some ⟨r, 0, none⟩)] 50)).alloc (.cells #[.int .i64 0, .int .i64 0] 25)).cell? ⟨w.heap.size, 0, none⟩ = some (.pointer (some ⟨r, 0, none⟩)) := (Upd.alloc Non _ _).cell ((cells_of (heap_alloc_new w (.cells #[.pointer (some ⟨r, 0, none⟩)] 50))).1 0) fun h => h
  have hb0 : ((w.alloc (.cells #[.pointer (some ⟨r, 0, none⟩)] 50)).alloc (.cells #[.int .i64 0, .int .i64 0] 25)).heap[w.heap.size + 1]? = some (.cells #[.int .i64 0, .int .i64 0] 25 (0, 0)) := by
    have := heap_alloc_new (w.alloc (.cells #[.pointer (some ⟨r, 0, none⟩)] 50)) (.cells #[.int .i64 0, .int .i64 0] 25)
    rwa [World.size_alloc] at this
  have hR0 : RdAt ((w.alloc (.cells #[.pointer (some ⟨r, 0, none⟩)] 50)).alloc (.cells #[.int .i64 0, .int .i64 0] 25)).drew r L s a e := (((h.non (Upd.alloc _ _ _)).non (Upd.alloc _ _ _)).non (Upd.drew _ _))
  have hU0 : Upd (fun k => k = r) w ((w.alloc (.cells #[.pointer (some ⟨r, 0, none⟩)] 50)).alloc (.cells #[.int .i64 0, .int .i64 0] 25)).drew := (((Upd.refl _ _).then_alloc _).then_alloc _).then_drew
  have d0 := (Upd.drew Non _).cell y0 fun h => h
  have db := (Upd.drew Non _).heap hb0 fun h => h
  have hsz : Hid ((Tryz.prog.info? 25).map (·.size) = some (#[Value.int .i64 n1, .int .i64 n2] : Array Value).size) := Lib.hid (by kernel_rfl)
  go_enter Tryz.func12, Tryz.ntmps12
  go_wp2_with fail
  refine wp_region_held_drew (S := (fun w' => w'.cell? ⟨w.heap.size, 0, none⟩ = some (.pointer (some ⟨r, 0, none⟩)))) (by kernel_rfl) (by (try dsimp only); first | exact g3 | exact g2 | exact g1 | exact d0) (fun hHeld => ?_)
  (refine wpAnyH_take (i := 0) (oi := ?oi_1_0) (v := ?v_1_0) ?ho_1_0 ?hs_1_0 ?hf_1_0 ?hr_1_0 ?hQ_1_0 ?hy_1_0 ?hS_1_0 ?rest_1_0; (case hr_1_0 => kernel_rfl); (case hf_1_0 => kernel_rfl); (case hs_1_0 => kernel_rfl); (case ho_1_0 => (simp only [List.getElem?_toArray, List.getElem?_cons_succ, List.getElem?_cons_zero]; rfl)); (case hS_1_0 => assumption); (case hQ_1_0 => exact fun _ _ _ h => h); (case hy_1_0 => (refine Or.inl ⟨by rfl, ?_⟩; (intro w hSw; (try dsimp only at hSw); go_simp) <;> with_reducible rfl)); (try simp only [Act.put, List.setIfInBounds_toArray, List.set_cons_zero, List.set_cons_succ]))
  (refine wpAnyH_take (i := 1) (oi := ?oi_1_1) (v := ?v_1_1) ?ho_1_1 ?hs_1_1 ?hf_1_1 ?hr_1_1 ?hQ_1_1 ?hy_1_1 ?hS_1_1 ?rest_1_1; (case hr_1_1 => kernel_rfl); (case hf_1_1 => kernel_rfl); (case hs_1_1 => kernel_rfl); (case ho_1_1 => (simp only [List.getElem?_toArray, List.getElem?_cons_succ, List.getElem?_cons_zero]; rfl)); (case hS_1_1 => assumption); (case hQ_1_1 => exact fun _ _ _ h => h); (case hy_1_1 => (refine Or.inl ⟨by rfl, ?_⟩; (intro w hSw; (try dsimp only at hSw); go_simp) <;> with_reducible rfl)); (try simp only [Act.put, List.setIfInBounds_toArray, List.set_cons_zero, List.set_cons_succ]))
  (refine wpAnyH_take (i := 3) (oi := ?oi_1_3) (v := ?v_1_3) ?ho_1_3 ?hs_1_3 ?hf_1_3 ?hr_1_3 ?hQ_1_3 ?hy_1_3 ?hS_1_3 ?rest_1_3; (case hr_1_3 => kernel_rfl); (case hf_1_3 => kernel_rfl); (case hs_1_3 => kernel_rfl); (case ho_1_3 => (simp only [List.getElem?_toArray, List.getElem?_cons_succ, List.getElem?_cons_zero]; rfl)); (case hS_1_3 => assumption); (case hQ_1_3 => exact fun _ _ _ h => h); (case hy_1_3 => (refine Or.inl ⟨by rfl, ?_⟩; (intro w hSw; (try dsimp only at hSw); go_simp) <;> with_reducible rfl)); (try simp only [Act.put, List.setIfInBounds_toArray, List.set_cons_zero, List.set_cons_succ]))
  (refine wpAnyH_take (i := 4) (oi := ?oi_1_4) (v := ?v_1_4) ?ho_1_4 ?hs_1_4 ?hf_1_4 ?hr_1_4 ?hQ_1_4 ?hy_1_4 ?hS_1_4 ?rest_1_4; (case hr_1_4 => kernel_rfl); (case hf_1_4 => kernel_rfl); (case hs_1_4 => kernel_rfl); (case ho_1_4 => (simp only [List.getElem?_toArray, List.getElem?_cons_succ, List.getElem?_cons_zero]; rfl)); (case hS_1_4 => assumption); (case hQ_1_4 => exact fun _ _ _ h => h); (case hy_1_4 => (refine Or.inl ⟨by rfl, ?_⟩; (intro w hSw; (try dsimp only at hSw); go_simp) <;> with_reducible rfl)); (try simp only [Act.put, List.setIfInBounds_toArray, List.set_cons_zero, List.set_cons_succ]))
  (refine wpAnyH_ready (rs := [2]) (by kernel_rfl) (by simp) ?_; refine AllReadyH.cons (o := ?oo_1_2) ?hoo_1_2 ?hst_1_2 AllReadyH.nil; (case hoo_1_2 => (simp only [List.getElem?_toArray, List.getElem?_cons_succ, List.getElem?_cons_zero]; rfl)); intro K hK; go_simp; (first | (go_at_call 44; (with_reducible refine (c1.out _ hR0).mono ?_); rintro en w4 ⟨rfl, hR1, hu4⟩; have g1 := hu4.cell d0 (by dsimp only; omega); have gb := hu4.heap db (by omega)) | (go_at_call 44; (with_reducible refine (c2.out _ hR1).mono ?_); rintro en w5 ⟨rfl, hR2, hu5⟩; have g2 := hu5.cell g1 (by dsimp only; omega); have gb2 := hu5.heap gb (by omega)) | (refine step_store_row rfl 25 _ _ rfl (w.heap.size + 1) 0 #[.int .i64 n1, .int .i64 n2] _ _ rfl rfl gb2 (Nat.le_refl _) hsz.out (by simp [Value.oneCell']) ?_; intro w6 hb6 hu6; have g3 := hu6.cell g2 (by dsimp only; omega))); (try go_wp2_with fail); refine hK.out _ _ (by (try dsimp only); first | exact g3 | exact g2 | exact g1 | exact d0) (fun hHeld => ?_); clear hK K; (try simp only [Act.put, List.setIfInBounds_toArray, List.set_cons_zero, List.set_cons_succ]))
  (refine wpAnyH_ready (rs := [5]) (by kernel_rfl) (by simp) ?_; refine AllReadyH.cons (o := ?oo_1_5) ?hoo_1_5 ?hst_1_5 AllReadyH.nil; (case hoo_1_5 => (simp only [List.getElem?_toArray, List.getElem?_cons_succ, List.getElem?_cons_zero]; rfl)); intro K hK; go_simp; (first | (go_at_call 44; (with_reducible refine (c1.out _ hR0).mono ?_); rintro en w4 ⟨rfl, hR1, hu4⟩; have g1 := hu4.cell d0 (by dsimp only; omega); have gb := hu4.heap db (by omega)) | (go_at_call 44; (with_reducible refine (c2.out _ hR1).mono ?_); rintro en w5 ⟨rfl, hR2, hu5⟩; have g2 := hu5.cell g1 (by dsimp only; omega); have gb2 := hu5.heap gb (by omega)) | (refine step_store_row rfl 25 _ _ rfl (w.heap.size + 1) 0 #[.int .i64 n1, .int .i64 n2] _ _ rfl rfl gb2 (Nat.le_refl _) hsz.out (by simp [Value.oneCell']) ?_; intro w6 hb6 hu6; have g3 := hu6.cell g2 (by dsimp only; omega))); (try go_wp2_with fail); refine hK.out _ _ (by (try dsimp only); first | exact g3 | exact g2 | exact g1 | exact d0) (fun hHeld => ?_); clear hK K; (try simp only [Act.put, List.setIfInBounds_toArray, List.set_cons_zero, List.set_cons_succ]))
  (refine wpAnyH_take (i := 6) (oi := ?oi_1_6) (v := ?v_1_6) ?ho_1_6 ?hs_1_6 ?hf_1_6 ?hr_1_6 ?hQ_1_6 ?hy_1_6 ?hS_1_6 ?rest_1_6; (case hr_1_6 => kernel_rfl); (case hf_1_6 => kernel_rfl); (case hs_1_6 => kernel_rfl); (case ho_1_6 => (simp only [List.getElem?_toArray, List.getElem?_cons_succ, List.getElem?_cons_zero]; rfl)); (case hS_1_6 => assumption); (case hQ_1_6 => exact fun _ _ _ h => h); (case hy_1_6 => (refine Or.inl ⟨by rfl, ?_⟩; (intro w hSw; (try dsimp only at hSw); go_simp) <;> with_reducible rfl)); (try simp only [Act.put, List.setIfInBounds_toArray, List.set_cons_zero, List.set_cons_succ]))
  (refine wpAnyH_ready (rs := [7]) (by kernel_rfl) (by simp) ?_; refine AllReadyH.cons (o := ?oo_1_7) ?hoo_1_7 ?hst_1_7 AllReadyH.nil; (case hoo_1_7 => (simp only [List.getElem?_toArray, List.getElem?_cons_succ, List.getElem?_cons_zero]; rfl)); intro K hK; (first | (go_at_call 44; (with_reducible refine (c1.out _ hR0).mono ?_); rintro en w4 ⟨rfl, hR1, hu4⟩; have g1 := hu4.cell d0 (by dsimp only; omega); have gb := hu4.heap db (by omega)) | (go_at_call 44; (with_reducible refine (c2.out _ hR1).mono ?_); rintro en w5 ⟨rfl, hR2, hu5⟩; have g2 := hu5.cell g1 (by dsimp only; omega); have gb2 := hu5.heap gb (by omega)) | (refine step_store_row rfl 25 _ _ rfl (w.heap.size + 1) 0 #[.int .i64 n1, .int .i64 n2] _ _ rfl rfl gb2 (Nat.le_refl _) hsz.out (by simp [Value.oneCell']) ?_; intro w6 hb6 hu6; have g3 := hu6.cell g2 (by dsimp only; omega))); (try go_wp2_with fail); refine hK.out _ _ (by (try dsimp only); first | exact g3 | exact g2 | exact g1 | exact d0) (fun hHeld => ?_); clear hK K; (try simp only [Act.put, List.setIfInBounds_toArray, List.set_cons_zero, List.set_cons_succ]))
  refine wpAnyH_done (by kernel_rfl) ?_ _
  have hR6 : RdAt w6 r L s a2 e2 := hR2.upd hu6 fun j _ hj => .inr (by omega)
  have hg : Rdd r L s a2 e2 (.agg #[.int .i64 n1, .int .i64 n2]) w (.returned (.agg #[.int .i64 n1, .int .i64 n2])) w6 := ⟨rfl, hR6, ((hU0.trans hu4 fun _ _ h => h).trans hu5 fun _ _ h => h).trans hu6 fun j hj h => by omega⟩
  have hb7 : w6.heap[w.heap.size + 1]? = some (.cells #[.int .i64 n1, .int .i64 n2] 25 (0, 0)) := hb6
  clear hu4 hu5 hu6 hU0 hR6 hR1 hR2 hR0 gb gb2 db hb6
  go_wp2_with fail
  (try simp only [Exit.inBlock, Exit.then])
  refine bodyPost_ret (results_cell_row rfl _ _ (w.heap.size + 1) _ _ _ _ rfl hb7 Tryz.underlying25 rfl hsz.out) rfl ?_
  exact hg
end Go.Proofs.YtogekobpjjmnjaaGreat

namespace Go.Proofs.YtogekobpjjmnjaaGreat
set_option maxRecDepth 100000
open Go.RowKit Go.Amb
set_option linter.unusedVariables false
/-- A text behind its length. -/
def rdStr (s : List UInt8) (a : Nat) (e : Int) (m : Nat) : Nat × Int × List UInt8 := rdRest s (rdNum s a e m).1 (rdNum s a e m).2.1 (rdNum s a e m).2.2.toNat
def rdParts (s : List UInt8) : Nat → Nat → Int → List Int → Nat × Int × List Int
  | 0, a, e, ps => (a, e, ps)
  | n + 1, a, e, ps => if e = 0 then rdParts s n (rdNum s a 0 1).1 (rdNum s a 0 1).2.1 (ps ++ [(rdNum s a 0 1).2.2]) else rdParts s n a e ps
def getQ (s : List UInt8) (c : UInt8) (x : Rq × Nat × Int) : Rq × Nat × Int :=
  if c = 83 then ({ x.1 with session := (rdNum s x.2.1 x.2.2 1).2.2 }, (rdNum s x.2.1 x.2.2 1).1, (rdNum s x.2.1 x.2.2 1).2.1) else
  if c = 66 then ({ x.1 with bucket := (rdStr s x.2.1 x.2.2 1).2.2 }, (rdStr s x.2.1 x.2.2 1).1, (rdStr s x.2.1 x.2.2 1).2.1) else
  if c = 79 then ({ x.1 with object := (rdStr s x.2.1 x.2.2 1).2.2 }, (rdStr s x.2.1 x.2.2 1).1, (rdStr s x.2.1 x.2.2 1).2.1) else
  if c = 86 then ({ x.1 with version := (rdStr s x.2.1 x.2.2 1).2.2 }, (rdStr s x.2.1 x.2.2 1).1, (rdStr s x.2.1 x.2.2 1).2.1) else
  if c = 80 then ({ x.1 with pre := (rdStr s x.2.1 x.2.2 1).2.2 }, (rdStr s x.2.1 x.2.2 1).1, (rdStr s x.2.1 x.2.2 1).2.1) else
  if c = 68 then ({ x.1 with delim := (rdStr s x.2.1 x.2.2 1).2.2 }, (rdStr s x.2.1 x.2.2 1).1, (rdStr s x.2.1 x.2.2 1).2.1) else
  if c = 67 then (if (rdNum s x.2.1 x.2.2 1).2.2 = 2 then
      ({ x.1 with ck := 2, re := (rdTag s (rdNum s x.2.1 x.2.2 1).1 (rdNum s x.2.1 x.2.2 1).2.1).2.2.1, im := (rdTag s (rdNum s x.2.1 x.2.2 1).1 (rdNum s x.2.1 x.2.2 1).2.1).2.2.2 }, (rdTag s (rdNum s x.2.1 x.2.2 1).1 (rdNum s x.2.1 x.2.2 1).2.1).1, (rdTag s (rdNum s x.2.1 x.2.2 1).1 (rdNum s x.2.1 x.2.2 1).2.1).2.1)
    else ({ x.1 with ck := (rdNum s x.2.1 x.2.2 1).2.2 }, (rdNum s x.2.1 x.2.2 1).1, (rdNum s x.2.1 x.2.2 1).2.1)) else
  if c = 73 then ({ x.1 with id := (rdNum s x.2.1 x.2.2 8).2.2 }, (rdNum s x.2.1 x.2.2 8).1, (rdNum s x.2.1 x.2.2 8).2.1) else
  if c = 78 then ({ x.1 with n := (rdNum s x.2.1 x.2.2 2).2.2 }, (rdNum s x.2.1 x.2.2 2).1, (rdNum s x.2.1 x.2.2 2).2.1) else
  if c = 76 then ({ x.1 with parts := (rdParts s (rdNum s x.2.1 x.2.2 1).2.2.toNat (rdNum s x.2.1 x.2.2 1).1 (rdNum s x.2.1 x.2.2 1).2.1 x.1.parts).2.2 }, (rdParts s (rdNum s x.2.1 x.2.2 1).2.2.toNat (rdNum s x.2.1 x.2.2 1).1 (rdNum s x.2.1 x.2.2 1).2.1 x.1.parts).1, (rdParts s (rdNum s x.2.1 x.2.2 1).2.2.toNat (rdNum s x.2.1 x.2.2 1).1 (rdNum s x.2.1 x.2.2 1).2.1 x.1.parts).2.1) else
  if c = 88 then ({ x.1 with body := (rdStr s x.2.1 x.2.2 2).2.2 }, (rdStr s x.2.1 x.2.2 2).1, (rdStr s x.2.1 x.2.2 2).2.1) else x
theorem rdNum_nat (s : List UInt8) (a : Nat) (e : Int) (m : Nat) (hm : m ≤ 4) : ∃ z : Nat, (rdNum s a e m).2.2 = (z : Int) ∧ z < 256 ^ m := by
  unfold rdNum
  by_cases he : e = 0
  · rw [if_pos he]
    by_cases h : a + m ≤ s.length
    · rw [if_pos h]
      have hl : ((s.drop a).take m).length ≤ m := by rw [List.length_take]; omega
      have h0 := numL_nonneg ((s.drop a).take m)
      have h1 := numL_lt_of (m := m) hl
      obtain ⟨z, hz⟩ := Int.eq_ofNat_of_zero_le h0
      have hp : (256 : Int) ^ m ≤ 4294967296 := by
        have : m = 0 ∨ m = 1 ∨ m = 2 ∨ m = 3 ∨ m = 4 := by omega
        rcases this with rfl | rfl | rfl | rfl | rfl <;> decide
      refine ⟨z, ?_, ?_⟩
      · show wrap64 _ = _
        rw [hz, IntWalk.wrap64_in _ ⟨by omega, by omega⟩]
      · rw [hz] at h1
        have : ((z : Nat) : Int) < ((256 ^ m : Nat) : Int) := by rw [Int.natCast_pow]; exact h1
        omega
    · rw [if_neg h]
      exact ⟨0, rfl, Nat.pos_of_ne_zero (by simp)⟩
  · rw [if_neg he]
    exact ⟨0, rfl, Nat.pos_of_ne_zero (by simp)⟩
end Go.Proofs.YtogekobpjjmnjaaGreat
