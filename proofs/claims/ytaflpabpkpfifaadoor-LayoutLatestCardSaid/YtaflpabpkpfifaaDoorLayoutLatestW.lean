/- The walk of LayoutLatest. -/
import Derived.Test.YtaflpabpkpfifaaDoorLyJ
import Derived.Test.YtaflpabpkpfifaaDoorLyL
import Derived.Test.YtaflpabpkpfifaaDoorLyT
import Derived.Test.YtaflpabpkpfifaaDoorLibH
namespace Go.Proofs.YtaflpabpkpfifaaDoor
set_option maxRecDepth 100000
open Go.RowKit Go.Amb
set_option linter.unusedVariables false
attribute [local go_sem ↓] Go.wp_at_zero Go.wp_at_succ

def KyOkL (x : Ky) : Prop := (∀ n ∈ x.ns, i64Ok n) ∧ x.b.length ≤ 140737488355328 ∧ x.o.length ≤ 140737488355328
abbrev OwnJ (w : World) (base : Nat) (v : Value) (l : List Int) : Prop := w.ownsRow base 3 1 v l.length (ics l)
theorem info_intL : (Tryd.prog.info? 3).map (fun i => (i.zero, i.size, i.bytes)) = some (some (.int .i64 0), 1, 8) := by kernel_rfl
theorem size_keyL : Hid ((Tryd.prog.info? 25).map (·.size) = some 4) := Lib.hid (by kernel_rfl)
/-- The frame: what is named, and whatever else. -/
def F122 (u : Nat → Value) (k av bv x y : Value) (r : Value) : Act := { tmps := #[u 0, av, bv, k, u 4, u 5, r, x, y, u 9, u 10, u 11, u 12, u 13, u 14, u 15, u 16, u 17, u 18, u 19, u 20, u 21, u 22, u 23, u 24, u 25, u 26, u 27, u 28, u 29, u 30, u 31, u 32, u 33, u 34, u 35, u 36, u 37, u 38, u 39, u 40, u 41, u 42, u 43, u 44, u 45, u 46, u 47, u 48, u 49, u 50, u 51, u 52, u 53, u 54, u 55, u 56, u 57, u 58, u 59, u 60, u 61, u 62, u 63, u 64, u 65, u 66, u 67, u 68, u 69, u 70, u 71, u 72, u 73, u 74, u 75, u 76, u 77, u 78, u 79, u 80, u 81, u 82, u 83, u 84, u 85, u 86, u 87, u 88, u 89, u 90, u 91, u 92, u 93, u 94, u 95, u 96, u 97, u 98, u 99, u 100, u 101, u 102, u 103, u 104, u 105, u 106, u 107, u 108, u 109, u 110, u 111, u 112, u 113, u 114, u 115, u 116, u 117, u 118, u 119, u 120, u 121], defers := [] }
theorem F122_of (u0 u1 u2 u3 u4 u5 u6 u7 u8 u9 u10 u11 u12 u13 u14 u15 u16 u17 u18 u19 u20 u21 u22 u23 u24 u25 u26 u27 u28 u29 u30 u31 u32 u33 u34 u35 u36 u37 u38 u39 u40 u41 u42 u43 u44 u45 u46 u47 u48 u49 u50 u51 u52 u53 u54 u55 u56 u57 u58 u59 u60 u61 u62 u63 u64 u65 u66 u67 u68 u69 u70 u71 u72 u73 u74 u75 u76 u77 u78 u79 u80 u81 u82 u83 u84 u85 u86 u87 u88 u89 u90 u91 u92 u93 u94 u95 u96 u97 u98 u99 u100 u101 u102 u103 u104 u105 u106 u107 u108 u109 u110 u111 u112 u113 u114 u115 u116 u117 u118 u119 u120 u121 : Value) : ({ tmps := #[u0, u1, u2, u3, u4, u5, u6, u7, u8, u9, u10, u11, u12, u13, u14, u15, u16, u17, u18, u19, u20, u21, u22, u23, u24, u25, u26, u27, u28, u29, u30, u31, u32, u33, u34, u35, u36, u37, u38, u39, u40, u41, u42, u43, u44, u45, u46, u47, u48, u49, u50, u51, u52, u53, u54, u55, u56, u57, u58, u59, u60, u61, u62, u63, u64, u65, u66, u67, u68, u69, u70, u71, u72, u73, u74, u75, u76, u77, u78, u79, u80, u81, u82, u83, u84, u85, u86, u87, u88, u89, u90, u91, u92, u93, u94, u95, u96, u97, u98, u99, u100, u101, u102, u103, u104, u105, u106, u107, u108, u109, u110, u111, u112, u113, u114, u115, u116, u117, u118, u119, u120, u121], defers := [] } : Act) = F122 (fun n => (#[u0, u1, u2, u3, u4, u5, u6, u7, u8, u9, u10, u11, u12, u13, u14, u15, u16, u17, u18, u19, u20, u21, u22, u23, u24, u25, u26, u27, u28, u29, u30, u31, u32, u33, u34, u35, u36, u37, u38, u39, u40, u41, u42, u43, u44, u45, u46, u47, u48, u49, u50, u51, u52, u53, u54, u55, u56, u57, u58, u59, u60, u61, u62, u63, u64, u65, u66, u67, u68, u69, u70, u71, u72, u73, u74, u75, u76, u77, u78, u79, u80, u81, u82, u83, u84, u85, u86, u87, u88, u89, u90, u91, u92, u93, u94, u95, u96, u97, u98, u99, u100, u101, u102, u103, u104, u105, u106, u107, u108, u109, u110, u111, u112, u113, u114, u115, u116, u117, u118, u119, u120, u121] : Array Value).getD n undef) u3 u1 u2 u7 u8 u6 := rfl
theorem size_int (w : World) : (Go.sizeOf (Tryd.prog.elem 23)).run Tryd.prog w = .ok 1 w := by
  have h : Tryd.prog.elem 23 = 3 := by kernel_rfl
  obtain ⟨i, hi, hz, hs, hb⟩ := info_parts info_intL
  rw [h]
  simp [Go.sizeOf, typeInfo, hi, hs]
theorem slice_ints (g off n cc h : Nat) (hi : Int) (hhi : hi = h) (hn : h ≤ cc) (w : World) : (Instr.slice 23 (.slice (some ⟨g, off, none⟩) n cc) none (some (.int .i64 hi)) none).run Tryd.prog w = .ok (.slice (some ⟨g, off, none⟩) h cc) w := by
  subst hhi
  rw [run_slice_h w 23 (some ⟨g, off, none⟩) n cc (by rw [show Tryd.prog.elem 23 = 3 by kernel_rfl]; exact Tryd.underlying23) .i64 (h : Int) (by omega) (by omega), size_int]
  simp [sliced, Result.andThen, Addr.add_lit]
theorem ints_take {w : World} {g off c m : Nat} {ns : List Int} (h : Ints w (.slice (some ⟨g, off, none⟩) ns.length c) ns) (hm : m ≤ ns.length) : Ints w (.slice (some ⟨g, off, none⟩) m c) (ns.take m) := by
  obtain ⟨hl, a, c', e, h1, h2, h3⟩ := h
  injection e with e1 e2 e3
  subst e1 e3
  refine ⟨by rw [ics_length, List.length_take]; omega, some ⟨g, off, none⟩, c, by rw [List.length_take, Nat.min_eq_left hm], by rw [List.length_take]; omega, h2, ?_⟩
  rcases h3 with h3 | ⟨g', off', e, hc⟩
  · exact .inl (by rw [List.length_take]; omega)
  · simp only [Option.some.injEq, Addr.mk.injEq] at e
    obtain ⟨rfl, rfl, _⟩ := e
    refine .inr ⟨g, off, rfl, fun j u hj => hc j u ?_⟩
    unfold ics at hj ⊢
    rw [List.map_take] at hj
    rw [List.getElem?_take] at hj
    split at hj
    · exact hj
    · cases hj
set_option maxHeartbeats 4000000 in
theorem latest_any (x : Ky) (nv : Value) (a b : Int) (w : World) (hN : Ints w nv x.ns) (hx : KyOkL x) (ha : i64Ok a) (hb : i64Ok b) : Calls Tryd.prog 6 #[kyV x nv, .int .i64 a, .int .i64 b] w (Ret (.bool true) w) := by
  have hlv := Lib.hid lives21
  have hi2 := Lib.hid info_intL
  have hf1 := Lib.hid (fun w' (hu : Upd Non w w') => l21Few x nv w' (hN.upd hu fun _ _ h => h))
  have hky := Lib.hid (fun w' (mv : Value) (c : Int) (hc : i64Ok c) (hM : Ints w' mv (x.ns.take (x.ns.length - 1) ++ [c])) => yKey ⟨x.k, x.b, x.o, x.ns.take (x.ns.length - 1) ++ [c]⟩ mv w' hM (fun n hn => (List.mem_append.1 hn).elim (fun h => hx.1 n (List.mem_of_mem_take h)) (fun h => by rw [List.mem_singleton.1 h]; exact hc)) hx.2.1 hx.2.2)
  have hsame := fun h0 h1 => keyR_last x.k x.b x.o (x.ns.take (x.ns.length - 1)) a b h0 h1
  have hless := fun h0 h1 => latest_less (k := x.k) (b := x.b) (o := x.o) (i := x.ns.take (x.ns.length - 1)) ha hb h0 h1
  have heq := fun h0 h1 => latest_same (k := x.k) (b := x.b) (o := x.o) (i := x.ns.take (x.ns.length - 1)) ha hb h0 h1
  have hka := fun w' mv hM => hky.out w' mv a ha hM
  have hkb := fun w' mv hM => hky.out w' mv b hb hM
  clear hky hx ha hb
  obtain ⟨na, nc, rfl, hnc, hncm, hcell⟩ := ints_at hN
  unfold maxLen at hncm
  by_cases hfew : fewK x
  · have h20 : x.ns.length ≤ 20 := hfew.1
    rw [decide_eq_true hfew] at hf1
    clear hfew
    obtain ⟨k, xb, xo, ns⟩ := x
    simp only at hsame hless heq hka hkb hcell hnc h20 hN
    generalize keyR ⟨k, xb, xo, ns.take (ns.length - 1) ++ [a]⟩ = ra at *
    generalize keyR ⟨k, xb, xo, ns.take (ns.length - 1) ++ [b]⟩ = rb at *
    obtain ⟨ta, ea⟩ := ra
    obtain ⟨tb, eb⟩ := rb
    simp only at hsame hless heq hka hkb
    unfold kyV txtV at *
    simp only at *
    replace hsame := Lib.hid hsame
    replace hless := Lib.hid hless
    replace heq := Lib.hid heq
    replace hka := Lib.hid hka
    replace hkb := Lib.hid hkb
    replace hcell := Lib.hid hcell
    go_enter Tryd.func6, Tryd.ntmps6
    go_wp2_with fail
    refine (hf1.out _ ((Upd.refl Non w).then_alloc _)).mono ?_
    rintro e w1 ⟨rfl, hX⟩
    have q := (hX.own1 (fun _ h => h.elim)).1
    have c0 := q 0
    have c1 := q 1
    have c2 := q 2
    have c3 := q 3
    clear q
    by_cases h1 : a < 0
    · go_wp2_with fail
      refine (hlv.out _).mono ?_
      rintro e w9 ⟨rfl, hu9⟩
      go_wp2_with fail
      go_ret
      exact ⟨rfl, (hX.trans hu9 fun _ _ h => h).own1 (fun _ h => h.elim) |>.2.2.2⟩
    · by_cases h2 : b < 0
      · go_wp2_with fail
        refine (hlv.out _).mono ?_
        rintro e w9 ⟨rfl, hu9⟩
        go_wp2_with fail
        go_ret
        exact ⟨rfl, (hX.trans hu9 fun _ _ h => h).own1 (fun _ h => h.elim) |>.2.2.2⟩
      · by_cases h3 : ns.length = 0
        · have h3a : ((ns.length : Int) == 0) = true := by simp [h3]
          replace h3 := Lib.hid h3
          go_wp2_with fail
          refine (hlv.out _).mono ?_
          rintro e w9 ⟨rfl, hu9⟩
          go_wp2_with fail
          go_ret
          exact ⟨rfl, (hX.trans hu9 fun _ _ h => h).own1 (fun _ h => h.elim) |>.2.2.2⟩
        · have h3a : ((ns.length : Int) == 0) = false := by simp; intro e; exact h3 (by rw [e]; rfl)
          obtain ⟨g, off, rfl, -⟩ := hcell.out 0 (by omega)
          go_wp2_with fail
          refine Code.wp_mono (Q := fun e f w' => match e with | .normal => (∃ (u : Nat → Value) (g7 g8 : Nat), f = F122 u (.pointer (some ⟨w.heap.size, 0, none⟩)) (.int .i64 a) (.int .i64 b) (.pointer (some ⟨g7, 0, none⟩)) (.pointer (some ⟨g8, 0, none⟩)) (.bool false) ∧ g7 ≠ g8 ∧ w1.heap.size ≤ g7 ∧ w1.heap.size ≤ g8 ∧
            w'.heap[g7]? = some (.cells #[.int .i64 k, .string ⟨xb.toArray⟩, .string ⟨xo.toArray⟩, .slice (some ⟨g, off, none⟩) ns.length nc] 25 (0, 0)) ∧
            w'.heap[g8]? = some (.cells #[.int .i64 k, .string ⟨xb.toArray⟩, .string ⟨xo.toArray⟩, .slice (some ⟨g, off, none⟩) ns.length nc] 25 (0, 0)) ∧ Upd Non w1 w') | _ => False) ?_ ?_
          · intro e f w2 hq
            cases e <;> first | exact hq.elim | skip
            obtain ⟨u, g7, g8, rfl, hne, hg7, hg8, hb7, hb8, hu2⟩ := hq
            have hX2 := hX.trans hu2 fun _ _ h => h
            obtain rfl : ea = eb := hsame.out (by omega) (by omega)
            have hNw := hN.upd (hX2.own1 (fun _ h => h.elim)).2.2.2 (fun _ _ h => h)
            obtain ⟨m, hm⟩ : ∃ m, ns.length = m + 1 := ⟨ns.length - 1, by omega⟩
            have htk : ns.take (ns.length - 1) = ns.take m := by rw [hm]; rfl
            rw [htk] at hka hkb
            have hNt := ints_take hNw (m := m) (by omega)
            have hN0 := ints_take hN (m := m) (by omega)
            rw [hm] at hNw
            obtain ⟨is, his⟩ : ∃ is, ns.take m = is := ⟨_, rfl⟩
            have hil : is.length = m := by rw [← his, List.length_take]; omega
            rw [his] at hka hkb hNt hN0
            have hsl := slice_ints g off (m + 1) nc m (m : Int) rfl (by omega)
            rw [hm] at hX hX2 hb7 hb8
            have hm20 : m < 20 := by omega
            have d0 := fun x => ((hX2.trans (Upd.alloc Non w2 x) fun _ _ h => h).own1 (fun _ h => h.elim)).1 3
            have hg2 := heap_lt hb7
            have hg3 := heap_lt hb8
            clear hu2 hcell htk his h20 hm h3a h1 h2 h3 c0 c1 c2 c3
            unfold F122
            have hsrc2 := Src.ofHas (P := Tryd.prog) (tx := 23) Tryd.underlying23 (hNt.upd (Upd.alloc Non w2 (.cells #[] 3)) fun _ _ h => h) (ics_one is)
            rw [hil] at hsrc2
            go_wp2_with (at_builtin; go_must (refine wpList_app rfl _ _ 23 23 rfl w2.heap.size 3 (.int .i64 0) 1 8 Tryd.underlying23 hi2.out rfl _ 0 [] rfl (World.ownsRow_lit (size := 1) w2 #[] 0 (Nat.le_refl _) (Nat.zero_le _) rfl) _ m (ics is) rfl hsrc2 (by unfold maxLen; omega) (by omega) (by simp) ?_))
            intro v3 w3 ho3 hu3 hf3
            have ho3 : OwnJ w3 w2.heap.size v3 is := by unfold OwnJ; rw [hil]; simpa using ho3
            have hz3 : w2.heap.size + 1 ≤ w3.heap.size := by have := hu3.size; simpa using this
            have hat : ∀ j, At (.slice (some ⟨w2.heap.size, 0, none⟩) 0 0) j → j = w2.heap.size := fun j h => by simpa [At, Value.ownBlock] using h.symm
            have hb7 := hu3.heap ((Upd.alloc Non w2 (.cells #[] 3)).heap hb7 (fun h => h)) (fun h => by have := hat _ h; omega)
            have hb8 := hu3.heap ((Upd.alloc Non w2 (.cells #[] 3)).heap hb8 (fun h => h)) (fun h => by have := hat _ h; omega)
            have hz2 : w.heap.size + 1 ≤ w2.heap.size := by have := hX2.size; simpa using this
            have hX3 := (hX2.then_alloc (.cells #[] 3)).trans hu3 (fun j hj h => by have := hat _ h; simp at hj; omega)
            have hN3 := hNt.upd ((Upd.alloc Non w2 (.cells #[] 3))) (fun _ _ h => h)
            clear hu3 hf3 hat
            go_wp2_with (at_builtin; go_must (refine wpList_app1n rfl _ _ 23 rfl w2.heap.size 3 (.int .i64 0) 1 8 Tryd.underlying23 hi2.out rfl _ _ _ rfl ho3 [.int .i64 a] w3.heap.size rfl rfl rfl (ics_one [a]) (by unfold maxLen; omega) (by omega) (by omega) ?_))
            intro v4 w4 ho4 hu4 hf4
            obtain ⟨q4, r4, s4, rfl⟩ : ∃ q r s, v4 = .slice q r s := by obtain ⟨_, a, c, e, _⟩ := has_of_owns ho4; exact ⟨_, _, _, e⟩
            have ho4 : OwnJ w4 w2.heap.size (.slice q4 r4 s4) (is ++ [a]) := by unfold OwnJ; rw [ics_append, List.length_append, hil]; exact ho4
            have hb7 := hu4.heap hb7 (fun h => by have := own_ge ho3 h; omega)
            have hb8 := hu4.heap hb8 (fun h => by have := own_ge ho3 h; omega)
            have hX4 := hX3.trans hu4 (fun j hj h => by have := own_ge ho3 h; simp at hj; omega)
            have hz4 : w3.heap.size ≤ w4.heap.size := hu4.size
            have x3 := (cells_of hb7).1 3
            have y3 := (cells_of hb7).2 3
            clear ho3 hu4 hf4 hX3
            have hX5 := hX4.then_setCell (p := ⟨g7, 3, none⟩) (fun h => absurd h (by have := hX.size; simp at this; simp; omega)) (.slice q4 r4 s4)
            have d1 := fun x => ((hX5.trans (Upd.alloc Non _ x) fun _ _ h => h).own1 (fun _ h => h.elim)).1 3
            have hb7s := set_blk (j := 3) hb7 (.slice q4 r4 s4)
            have hsz4 : (w4.setCell ⟨g7, 3, none⟩ (.slice q4 r4 s4)).heap.size = w4.heap.size := by simp [World.setCell]
            have hls4 : ((w4.setCell ⟨g7, 3, none⟩ (.slice q4 r4 s4)).alloc (.cells #[] 3)).ownsRow w4.heap.size 3 1 (.slice (some ⟨w4.heap.size, 0, none⟩) 0 0) 0 [] := by
              have := World.ownsRow_lit (base := w4.heap.size) (size := 1) (e := 3) (w4.setCell ⟨g7, 3, none⟩ (.slice q4 r4 s4)) #[] 0 (by rw [hsz4]; exact Nat.le_refl _) (Nat.zero_le _) rfl
              rw [hsz4] at this
              exact this
            have hbs4 : w4.heap.size ≤ ((w4.setCell ⟨g7, 3, none⟩ (.slice q4 r4 s4)).alloc (.cells #[] 3)).heap.size := by simp [World.setCell]
            replace hsz4 := Lib.hid hsz4
            have hsrc4 := Src.ofHas (P := Tryd.prog) (tx := 23) Tryd.underlying23 ((hN0.upd (hX5.own1 (fun _ h => h.elim)).2.2.2 fun _ _ h => h).upd (Upd.alloc Non _ (.cells #[] 3)) fun _ _ h => h) (ics_one is)
            rw [hil] at hsrc4
            go_wp2_with (at_builtin; go_must (refine wpList_app rfl _ _ 23 23 rfl w4.heap.size 3 (.int .i64 0) 1 8 Tryd.underlying23 hi2.out rfl _ 0 [] rfl hls4 _ m (ics is) rfl hsrc4 (by unfold maxLen; omega) (by omega) hbs4 ?_))
            intro v5 w5 ho5 hu5 hf5
            have ho5 : OwnJ w5 w4.heap.size v5 is := by unfold OwnJ; rw [hil]; simpa using ho5
            have hz5 : w4.heap.size + 1 ≤ w5.heap.size := by have := hu5.size; simpa [World.setCell] using this
            have hat5 : ∀ j, w4.heap.size > j → ¬ At (.slice (some ⟨w4.heap.size, 0, none⟩) 0 0) j := fun j hj h => by (have : w4.heap.size = j := by simpa [At, Value.ownBlock] using h); omega
            have hu5 : Upd (At (.slice (some ⟨w4.heap.size, 0, none⟩) 0 0)) ((w4.setCell ⟨g7, 3, none⟩ (.slice q4 r4 s4)).alloc (.cells #[] 3)) w5 := by simpa [World.setCell] using hu5
            have hs4 := Upd.setCell (S := fun k => k = g7) w4 (a := ⟨g7, 3, none⟩) rfl (.slice q4 r4 s4)
            have hb8s := hs4.heap hb8 (fun e => hne e.symm)
            have hb7 := hu5.heap ((Upd.alloc Non _ (.cells #[] 3)).heap hb7s (fun h => h)) (hat5 _ (by omega))
            have hb8 := hu5.heap ((Upd.alloc Non _ (.cells #[] 3)).heap hb8s (fun h => h)) (hat5 _ (by omega))
            have hM4 : Ints w4 (.slice q4 r4 s4) (is ++ [a]) := has_of_owns ho4
            have hM5 := ((hM4.upd hs4 (fun j hj e => by have := own_ge ho4 hj; omega)).upd (Upd.alloc Non _ (.cells #[] 3)) (fun _ _ h => h)).upd hu5 (fun j hj => hat5 j (own_lt ho4 hj))
            have hX6 := (hX5.then_alloc (.cells #[] 3)).trans hu5 (fun j hj h => absurd h (hat5 j (by simp at hj; omega)))
            clear hb7s hb8s hs4 hX4 hX5 d1 hu5 hf5 x3 y3
            go_wp2_with (at_builtin; go_must (refine wpList_app1n rfl _ _ 23 rfl w4.heap.size 3 (.int .i64 0) 1 8 Tryd.underlying23 hi2.out rfl _ _ _ rfl ho5 [.int .i64 b] w5.heap.size rfl rfl rfl (ics_one [b]) (by unfold maxLen; omega) (by omega) (by omega) ?_))
            intro v6 w6 ho6 hu6 hf6
            obtain ⟨q6, r6, s6, rfl⟩ : ∃ q r s, v6 = .slice q r s := by obtain ⟨_, a, c, e, _⟩ := has_of_owns ho6; exact ⟨_, _, _, e⟩
            have ho6 : OwnJ w6 w4.heap.size (.slice q6 r6 s6) (is ++ [b]) := by unfold OwnJ; rw [ics_append, List.length_append, hil]; exact ho6
            have hb7 := hu6.heap hb7 (fun h => by have := own_ge ho5 h; omega)
            have hb8 := hu6.heap hb8 (fun h => by have := own_ge ho5 h; omega)
            have hX7 := hX6.trans hu6 (fun j hj h => by have := own_ge ho5 h; simp at hj; omega)
            have hM6 := hM5.upd hu6 (fun j hj h => by have := own_ge ho5 h; have := own_lt ho4 hj; omega)
            have hz6 : w5.heap.size ≤ w6.heap.size := hu6.size
            have x3 := (cells_of hb8).1 3
            have y3 := (cells_of hb8).2 3
            have hX8 := hX7.then_setCell (p := ⟨g8, 3, none⟩) (fun h => absurd h (by have := hX.size; simp at this; simp; omega)) (.slice q6 r6 s6)
            have hs6 := Upd.setCell (S := fun k => k = g8) w6 (a := ⟨g8, 3, none⟩) rfl (.slice q6 r6 s6)
            have hb7t := hs6.heap hb7 (fun e => hne e)
            have hb8t := set_blk (j := 3) hb8 (.slice q6 r6 s6)
            have hM7 := hM6.upd hs6 (fun j hj e => by have := own_ge ho4 hj; omega)
            have hN7 : Ints w6 (.slice q6 r6 s6) (is ++ [b]) := has_of_owns ho6
            have hN8 := hN7.upd hs6 (fun j hj e => by have := own_ge ho6 hj; omega)
            obtain ⟨p0, p1, p2, p3⟩ := cells4 hb7t
            clear ho5 hu6 hf6 hX6 hX7 hM4 hM5 hM6 hN7 hs6
            replace hM7 := Lib.hid hM7
            replace hN8 := Lib.hid hN8
            go_wp2_with fail
            refine (hka.out _ _ hM7.out).mono ?_
            rintro e w7 ⟨rfl, hu7⟩
            have hX9 := hX8.trans hu7 fun _ _ h => h
            have hb8u := hu7.heap hb8t fun h => h
            have hN9 := Lib.hid (hN8.out.upd hu7 fun _ _ h => h)
            obtain ⟨r0, r1, r2, r3⟩ := cells4 hb8u
            clear p0 p1 p2 p3 hu7 hX8 hb7t hb8t x3 y3 hb7 hb8
            go_wp2_with fail
            refine (hkb.out _ _ hN9.out).mono ?_
            rintro e w8 ⟨rfl, hu8⟩
            have hX1 := hX9.trans hu8 fun _ _ h => h
            have k0 := (hX1.own1 (fun _ h => h.elim)).1 0
            clear r0 r1 r2 r3 hX9 hu8 hX2
            have hXo := hX
            clear hX
            have hX := hX1
            clear hX1
            by_cases he : ea = 0
            · subst he
              have hl := hless.out rfl rfl
              have hq := heq.out rfl rfl
              by_cases hk2 : k = 2
              · have hkb1 : (k == 2) = true := by simp [hk2]
                rw [if_pos hk2] at hl
                replace hk2 := Lib.hid hk2
                rcases Int.lt_trichotomy a b with hab | hab | hab
                · rw [decide_eq_false (show ¬ b < a by omega)] at hl
                  rw [decide_eq_false (show ¬ a = b by omega)] at hq
                  have g1 : decide (b < a) = false := decide_eq_false (by omega)
                  have g2 : (a == b) = false := by simp; omega
                  go_wp2_with fail
                  refine (hlv.out _).mono ?_
                  rintro e w9 ⟨rfl, hu9⟩
                  go_wp2_with fail
                  go_ret
                  exact ⟨rfl, (hX.trans hu9 fun _ _ h => h).own1 (fun _ h => h.elim) |>.2.2.2⟩
                · subst hab
                  rw [decide_eq_false (show ¬ a < a by omega)] at hl
                  rw [decide_eq_true rfl] at hq
                  have g1 : ¬ a < a := by omega
                  have g2 : (a == a) = true := by simp
                  go_wp2_with fail
                  refine (hlv.out _).mono ?_
                  rintro e w9 ⟨rfl, hu9⟩
                  go_wp2_with fail
                  go_ret
                  exact ⟨rfl, (hX.trans hu9 fun _ _ h => h).own1 (fun _ h => h.elim) |>.2.2.2⟩
                · rw [decide_eq_true hab] at hl
                  rw [decide_eq_false (show ¬ a = b by omega)] at hq
                  have g2 : (a == b) = false := by simp; omega
                  go_wp2_with fail
                  refine (hlv.out _).mono ?_
                  rintro e w9 ⟨rfl, hu9⟩
                  go_wp2_with fail
                  go_ret
                  exact ⟨rfl, (hX.trans hu9 fun _ _ h => h).own1 (fun _ h => h.elim) |>.2.2.2⟩
              · have hkb1 : (k == 2) = false := by simp [hk2]
                rw [if_neg hk2] at hl
                replace hk2 := Lib.hid hk2
                rcases Int.lt_trichotomy a b with hab | hab | hab
                · rw [decide_eq_true hab] at hl
                  rw [decide_eq_false (show ¬ a = b by omega)] at hq
                  have g2 : (a == b) = false := by simp; omega
                  go_wp2_with fail
                  refine (hlv.out _).mono ?_
                  rintro e w9 ⟨rfl, hu9⟩
                  go_wp2_with fail
                  go_ret
                  exact ⟨rfl, (hX.trans hu9 fun _ _ h => h).own1 (fun _ h => h.elim) |>.2.2.2⟩
                · subst hab
                  rw [decide_eq_false (show ¬ a < a by omega)] at hl
                  rw [decide_eq_true rfl] at hq
                  have g1 : ¬ a < a := by omega
                  have g2 : (a == a) = true := by simp
                  go_wp2_with fail
                  refine (hlv.out _).mono ?_
                  rintro e w9 ⟨rfl, hu9⟩
                  go_wp2_with fail
                  go_ret
                  exact ⟨rfl, (hX.trans hu9 fun _ _ h => h).own1 (fun _ h => h.elim) |>.2.2.2⟩
                · rw [decide_eq_false (show ¬ a < b by omega)] at hl
                  rw [decide_eq_false (show ¬ a = b by omega)] at hq
                  have g1 : decide (a < b) = false := decide_eq_false (by omega)
                  have g2 : (a == b) = false := by simp; omega
                  go_wp2_with fail
                  refine (hlv.out _).mono ?_
                  rintro e w9 ⟨rfl, hu9⟩
                  go_wp2_with fail
                  go_ret
                  exact ⟨rfl, (hX.trans hu9 fun _ _ h => h).own1 (fun _ h => h.elim) |>.2.2.2⟩
            · have he2 : (ea != 0) = true := by simp [he]
              have he3 : (ea == ea) = true := by simp
              go_wp2_with fail
              refine (hlv.out _).mono ?_
              rintro e w9 ⟨rfl, hu9⟩
              go_wp2_with fail
              go_ret
              exact ⟨rfl, (hX.trans hu9 fun _ _ h => h).own1 (fun _ h => h.elim) |>.2.2.2⟩
          · skip
            go_wp2_with fail
            refine wp_region_held_drew (S := (fun w' => (∀ j, w'.cell? ⟨w.heap.size, j, none⟩ = (#[.int .i64 k, .string ⟨xb.toArray⟩, .string ⟨xo.toArray⟩, .slice (some ⟨g, off, none⟩) ns.length nc] : Array Value)[j]?) ∧ Upd Non (w.alloc (.cells #[.int .i64 k, .string ⟨xb.toArray⟩, .string ⟨xo.toArray⟩, .slice (some ⟨g, off, none⟩) ns.length nc] 25)) w')) (by kernel_rfl) (by (refine held_box ?_; exact hX.then_drew)) (fun hHeld => ?_)
            (refine wpAnyH_take (i := 0) (oi := ?oi_z1) (v := ?v_z1) ?ho_z1 ?hs_z1 ?hf_z1 ?hr_z1 ?hQ_z1 ?hy_z1 ?hS_z1 ?rest_z1; (case hr_z1 => kernel_rfl); (case hf_z1 => kernel_rfl); (case hs_z1 => kernel_rfl); (case ho_z1 => (simp only [List.getElem?_toArray, List.getElem?_cons_succ, List.getElem?_cons_zero]; rfl)); (case hS_z1 => assumption); (case hQ_z1 => exact fun _ _ _ h => h); (case hy_z1 => (refine Or.inl ⟨by rfl, ?_⟩; (intro w hSw; obtain ⟨x0, xu⟩ := hSw; have y0 := x0 0; have y1 := x0 1; have y2 := x0 2; have y3 := x0 3; go_simp) <;> with_reducible rfl)); (try simp only [Act.put, List.setIfInBounds_toArray, List.set_cons_zero, List.set_cons_succ]))
            (refine wpAnyH_take (i := 1) (oi := ?oi_z2) (v := ?v_z2) ?ho_z2 ?hs_z2 ?hf_z2 ?hr_z2 ?hQ_z2 ?hy_z2 ?hS_z2 ?rest_z2; (case hr_z2 => kernel_rfl); (case hf_z2 => kernel_rfl); (case hs_z2 => kernel_rfl); (case ho_z2 => (simp only [List.getElem?_toArray, List.getElem?_cons_succ, List.getElem?_cons_zero]; rfl)); (case hS_z2 => assumption); (case hQ_z2 => exact fun _ _ _ h => h); (case hy_z2 => (refine Or.inl ⟨by rfl, ?_⟩; (intro w hSw; obtain ⟨x0, xu⟩ := hSw; have y0 := x0 0; have y1 := x0 1; have y2 := x0 2; have y3 := x0 3; go_simp) <;> with_reducible rfl)); (try simp only [Act.put, List.setIfInBounds_toArray, List.set_cons_zero, List.set_cons_succ]))
            refine wpAnyH_ready (rs := [2, 3]) (by kernel_rfl) (by simp) ?_
            refine (AllReadyH.cons (o := ?ooz11_0) ?hoz11_0 ?hsz11_0 (AllReadyH.cons (o := ?ooz11_1) ?hoz11_1 ?hsz11_1 AllReadyH.nil))
            case hoz11_0 => (simp only [List.getElem?_toArray, List.getElem?_cons_succ, List.getElem?_cons_zero]; rfl)
            case hoz11_1 => (simp only [List.getElem?_toArray, List.getElem?_cons_succ, List.getElem?_cons_zero]; rfl)
            case hsz11_0 =>
              intro K hK
              go_simp
              try go_wp2_with fail
              refine hK.out _ _ (by (refine held_box ?_; exact (hX.then_drew).then_alloc _)) (fun hHeld => ?_)
              clear hK K
              try simp only [Act.put, List.setIfInBounds_toArray, List.set_cons_zero, List.set_cons_succ]
              refine wpAnyH_ready (rs := [3]) (by kernel_rfl) (by simp) ?_
              refine (AllReadyH.cons (o := ?ooz9_0) ?hoz9_0 ?hsz9_0 AllReadyH.nil)
              case hoz9_0 => (simp only [List.getElem?_toArray, List.getElem?_cons_succ, List.getElem?_cons_zero]; rfl)
              case hsz9_0 =>
                intro K hK
                go_simp
                try go_wp2_with fail
                refine hK.out _ _ (by (refine held_box ?_; exact (hX.then_drew.then_alloc _).then_alloc _)) (fun hHeld => ?_)
                clear hK K
                try simp only [Act.put, List.setIfInBounds_toArray, List.set_cons_zero, List.set_cons_succ]
                refine wpAnyH_ready (rs := [4]) (by kernel_rfl) (by simp) ?_
                refine (AllReadyH.cons (o := ?ooz4_0) ?hoz4_0 ?hsz4_0 AllReadyH.nil)
                case hoz4_0 => (simp only [List.getElem?_toArray, List.getElem?_cons_succ, List.getElem?_cons_zero]; rfl)
                case hsz4_0 =>
                  intro K hK
                  refine storeB_step rfl 25 _ _ rfl (w1.heap.size) #[.int .i64 k, .string ⟨xb.toArray⟩, .string ⟨xo.toArray⟩, .slice (some ⟨g, off, none⟩) ns.length nc] _ _ rfl rfl (heap_alloc2_old w1.drew (.cells #[.int .i64 0, .string ⟨#[]⟩, .string ⟨#[]⟩, .slice none 0 0] 25) (.cells #[.int .i64 0, .string ⟨#[]⟩, .string ⟨#[]⟩, .slice none 0 0] 25)) rfl size_keyL.out (by simp [Value.oneCell']) ?_
                  intro wa hbwa huwa
                  have Uwa := Upd.trans ((hX.then_drew.then_alloc (.cells #[.int .i64 0, .string ⟨#[]⟩, .string ⟨#[]⟩, .slice none 0 0] 25)).then_alloc (.cells #[.int .i64 0, .string ⟨#[]⟩, .string ⟨#[]⟩, .slice none 0 0] 25)) huwa (fun j hj e => by (have : j = w1.heap.size := e); (have := hX.size); (simp at this hj); omega)
                  refine hK.out _ _ (by (refine held_box ?_; exact Uwa)) (fun hHeld => ?_)
                  clear hK K
                  try simp only [Act.put, List.setIfInBounds_toArray, List.set_cons_zero, List.set_cons_succ]
                  refine wpAnyH_ready (rs := [5]) (by kernel_rfl) (by simp) ?_
                  refine (AllReadyH.cons (o := ?ooz3_0) ?hoz3_0 ?hsz3_0 AllReadyH.nil)
                  case hoz3_0 => (simp only [List.getElem?_toArray, List.getElem?_cons_succ, List.getElem?_cons_zero]; rfl)
                  case hsz3_0 =>
                    intro K hK
                    refine storeB_step rfl 25 _ _ rfl (w1.heap.size + 1) #[.int .i64 k, .string ⟨xb.toArray⟩, .string ⟨xo.toArray⟩, .slice (some ⟨g, off, none⟩) ns.length nc] _ _ rfl rfl ((huwa.heap (heap_alloc2_new w1.drew (.cells #[.int .i64 0, .string ⟨#[]⟩, .string ⟨#[]⟩, .slice none 0 0] 25) (.cells #[.int .i64 0, .string ⟨#[]⟩, .string ⟨#[]⟩, .slice none 0 0] 25))) (fun e => by (have : w1.heap.size + 1 = w1.heap.size := e); omega)) rfl size_keyL.out (by simp [Value.oneCell']) ?_
                    intro wb hbwb huwb
                    have Uwb := Upd.trans (Uwa) huwb (fun j hj e => by (have : j = w1.heap.size + 1 := e); (have := hX.size); (simp at this hj); omega)
                    refine hK.out _ _ (by (refine held_box ?_; exact Uwb)) (fun hHeld => ?_)
                    clear hK K
                    try simp only [Act.put, List.setIfInBounds_toArray, List.set_cons_zero, List.set_cons_succ]
                    refine wpAnyH_done (by kernel_rfl) ?_ _
                    refine ⟨_, w1.heap.size, w1.heap.size + 1, F122_of _ _ _ _ _ _ _ _ _ _ _ _ _ _ _ _ _ _ _ _ _ _ _ _ _ _ _ _ _ _ _ _ _ _ _ _ _ _ _ _ _ _ _ _ _ _ _ _ _ _ _ _ _ _ _ _ _ _ _ _ _ _ _ _ _ _ _ _ _ _ _ _ _ _ _ _ _ _ _ _ _ _ _ _ _ _ _ _ _ _ _ _ _ _ _ _ _ _ _ _ _ _ _ _ _ _ _ _ _ _ _ _ _ _ _ _ _ _ _ _ _ _, by omega, Nat.le_refl _, by omega, (huwb.heap hbwa (fun e => by (have : w1.heap.size = w1.heap.size + 1 := e); omega)), hbwb, (((Upd.drew Non w1).then_alloc (.cells #[.int .i64 0, .string ⟨#[]⟩, .string ⟨#[]⟩, .slice none 0 0] 25)).then_alloc (.cells #[.int .i64 0, .string ⟨#[]⟩, .string ⟨#[]⟩, .slice none 0 0] 25)).trans huwa (fun j hj e => by (have : j = w1.heap.size := e); omega) |>.trans huwb (fun j hj e => by (have : j = w1.heap.size + 1 := e); omega)⟩
            case hsz11_1 =>
              intro K hK
              go_simp
              try go_wp2_with fail
              refine hK.out _ _ (by (refine held_box ?_; exact (hX.then_drew).then_alloc _)) (fun hHeld => ?_)
              clear hK K
              try simp only [Act.put, List.setIfInBounds_toArray, List.set_cons_zero, List.set_cons_succ]
              refine wpAnyH_ready (rs := [2]) (by kernel_rfl) (by simp) ?_
              refine (AllReadyH.cons (o := ?ooz10_0) ?hoz10_0 ?hsz10_0 AllReadyH.nil)
              case hoz10_0 => (simp only [List.getElem?_toArray, List.getElem?_cons_succ, List.getElem?_cons_zero]; rfl)
              case hsz10_0 =>
                intro K hK
                go_simp
                try go_wp2_with fail
                refine hK.out _ _ (by (refine held_box ?_; exact (hX.then_drew.then_alloc _).then_alloc _)) (fun hHeld => ?_)
                clear hK K
                try simp only [Act.put, List.setIfInBounds_toArray, List.set_cons_zero, List.set_cons_succ]
                refine wpAnyH_ready (rs := [4]) (by kernel_rfl) (by simp) ?_
                refine (AllReadyH.cons (o := ?ooz8_0) ?hoz8_0 ?hsz8_0 AllReadyH.nil)
                case hoz8_0 => (simp only [List.getElem?_toArray, List.getElem?_cons_succ, List.getElem?_cons_zero]; rfl)
                case hsz8_0 =>
                  intro K hK
                  refine storeB_step rfl 25 _ _ rfl (w1.heap.size + 1) #[.int .i64 k, .string ⟨xb.toArray⟩, .string ⟨xo.toArray⟩, .slice (some ⟨g, off, none⟩) ns.length nc] _ _ rfl rfl (heap_alloc2_new w1.drew (.cells #[.int .i64 0, .string ⟨#[]⟩, .string ⟨#[]⟩, .slice none 0 0] 25) (.cells #[.int .i64 0, .string ⟨#[]⟩, .string ⟨#[]⟩, .slice none 0 0] 25)) rfl size_keyL.out (by simp [Value.oneCell']) ?_
                  intro wa hbwa huwa
                  have Uwa := Upd.trans ((hX.then_drew.then_alloc (.cells #[.int .i64 0, .string ⟨#[]⟩, .string ⟨#[]⟩, .slice none 0 0] 25)).then_alloc (.cells #[.int .i64 0, .string ⟨#[]⟩, .string ⟨#[]⟩, .slice none 0 0] 25)) huwa (fun j hj e => by (have : j = w1.heap.size + 1 := e); (have := hX.size); (simp at this hj); omega)
                  refine hK.out _ _ (by (refine held_box ?_; exact Uwa)) (fun hHeld => ?_)
                  clear hK K
                  try simp only [Act.put, List.setIfInBounds_toArray, List.set_cons_zero, List.set_cons_succ]
                  refine wpAnyH_ready (rs := [5]) (by kernel_rfl) (by simp) ?_
                  refine (AllReadyH.cons (o := ?ooz7_0) ?hoz7_0 ?hsz7_0 AllReadyH.nil)
                  case hoz7_0 => (simp only [List.getElem?_toArray, List.getElem?_cons_succ, List.getElem?_cons_zero]; rfl)
                  case hsz7_0 =>
                    intro K hK
                    refine storeB_step rfl 25 _ _ rfl (w1.heap.size) #[.int .i64 k, .string ⟨xb.toArray⟩, .string ⟨xo.toArray⟩, .slice (some ⟨g, off, none⟩) ns.length nc] _ _ rfl rfl ((huwa.heap (heap_alloc2_old w1.drew (.cells #[.int .i64 0, .string ⟨#[]⟩, .string ⟨#[]⟩, .slice none 0 0] 25) (.cells #[.int .i64 0, .string ⟨#[]⟩, .string ⟨#[]⟩, .slice none 0 0] 25))) (fun e => by (have : w1.heap.size = w1.heap.size + 1 := e); omega)) rfl size_keyL.out (by simp [Value.oneCell']) ?_
                    intro wb hbwb huwb
                    have Uwb := Upd.trans (Uwa) huwb (fun j hj e => by (have : j = w1.heap.size := e); (have := hX.size); (simp at this hj); omega)
                    refine hK.out _ _ (by (refine held_box ?_; exact Uwb)) (fun hHeld => ?_)
                    clear hK K
                    try simp only [Act.put, List.setIfInBounds_toArray, List.set_cons_zero, List.set_cons_succ]
                    refine wpAnyH_done (by kernel_rfl) ?_ _
                    refine ⟨_, w1.heap.size + 1, w1.heap.size, F122_of _ _ _ _ _ _ _ _ _ _ _ _ _ _ _ _ _ _ _ _ _ _ _ _ _ _ _ _ _ _ _ _ _ _ _ _ _ _ _ _ _ _ _ _ _ _ _ _ _ _ _ _ _ _ _ _ _ _ _ _ _ _ _ _ _ _ _ _ _ _ _ _ _ _ _ _ _ _ _ _ _ _ _ _ _ _ _ _ _ _ _ _ _ _ _ _ _ _ _ _ _ _ _ _ _ _ _ _ _ _ _ _ _ _ _ _ _ _ _ _ _ _, by omega, by omega, Nat.le_refl _, (huwb.heap hbwa (fun e => by (have : w1.heap.size + 1 = w1.heap.size := e); omega)), hbwb, (((Upd.drew Non w1).then_alloc (.cells #[.int .i64 0, .string ⟨#[]⟩, .string ⟨#[]⟩, .slice none 0 0] 25)).then_alloc (.cells #[.int .i64 0, .string ⟨#[]⟩, .string ⟨#[]⟩, .slice none 0 0] 25)).trans huwa (fun j hj e => by (have : j = w1.heap.size + 1 := e); omega) |>.trans huwb (fun j hj e => by (have : j = w1.heap.size := e); omega)⟩
  · rw [decide_eq_false hfew] at hf1
    obtain ⟨k, xb, xo, ns⟩ := x
    clear hsame hless heq hka hkb hfew hcell
    unfold kyV txtV at *
    simp only at *
    generalize ns.length = n at *
    go_enter Tryd.func6, Tryd.ntmps6
    go_wp2_with fail
    refine (hf1.out _ ((Upd.refl Non w).then_alloc _)).mono ?_
    rintro e w1 ⟨rfl, hX⟩
    go_wp2_with fail
    refine (hlv.out _).mono ?_
    rintro e w9 ⟨rfl, hu9⟩
    go_wp2_with fail
    go_ret
    exact ⟨rfl, (hX.trans hu9 fun _ _ h => h).own1 (fun _ h => h.elim) |>.2.2.2⟩
end Go.Proofs.YtaflpabpkpfifaaDoor
