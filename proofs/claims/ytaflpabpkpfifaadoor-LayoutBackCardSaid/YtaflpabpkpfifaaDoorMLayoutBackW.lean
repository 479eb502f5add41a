/- The walk of LayoutBack. -/
import Derived.Test.YtaflpabpkpfifaaDoorMLyBk
import Derived.Test.YtaflpabpkpfifaaDoorMLsP
import Derived.Test.YtaflpabpkpfifaaDoorMLyIt
import Derived.Test.YtaflpabpkpfifaaDoorMLyI
import Derived.Test.YtaflpabpkpfifaaDoorMLayoutHeadsW
import Derived.Test.YtaflpabpkpfifaaDoorMLyJ
namespace Go.Proofs.YtaflpabpkpfifaaDoor
set_option maxRecDepth 100000
open Go.RowKit Go.Amb
set_option linter.unusedVariables false
attribute [local go_sem ↓] Go.wp_at_zero Go.wp_at_succ

theorem head_neq (a b c : Int) (d e : Bool) (w : World) : (binOp .neq 48 (.agg #[.int .i64 a, .int .i64 b, .int .i64 c, .bool d, .bool e]) (.agg #[.int .i64 a, .int .i64 b, .int .i64 c, .bool d, .bool e])).run Tryd.prog w = .ok (.bool false) w := by
  have hs : Program.stoodInHeld Tryd.prog 48 = false := by kernel_rfl
  rw [run_neq_struct, run_equalIn_agg w 9999 48 _ _ (by kernel_rfl) hs]
  simp only [Program.fieldsOf, Tryd.underlying48]
  simp [Op.eqFields, go_sem]
theorem wait {p : Prop} (h : Hid p) : p := h
/-- The frame: what is named, and whatever else. -/
def F159 (u : Nat → Value) (kv hv id s pk ph r : Value) : Act := { tmps := #[kv, hv, id, s, pk, ph, u 6, u 7, r, u 9, u 10, u 11, u 12, u 13, u 14, u 15, u 16, u 17, u 18, u 19, u 20, u 21, u 22, u 23, u 24, u 25, u 26, u 27, u 28, u 29, u 30, u 31, u 32, u 33, u 34, u 35, u 36, u 37, u 38, u 39, u 40, u 41, u 42, u 43, u 44, u 45, u 46, u 47, u 48, u 49, u 50, u 51, u 52, u 53, u 54, u 55, u 56, u 57, u 58, u 59, u 60, u 61, u 62, u 63, u 64, u 65, u 66, u 67, u 68, u 69, u 70, u 71, u 72, u 73, u 74, u 75, u 76, u 77, u 78, u 79, u 80, u 81, u 82, u 83, u 84, u 85, u 86, u 87, u 88, u 89, u 90, u 91, u 92, u 93, u 94, u 95, u 96, u 97, u 98, u 99, u 100, u 101, u 102, u 103, u 104, u 105, u 106, u 107, u 108, u 109, u 110, u 111, u 112, u 113, u 114, u 115, u 116, u 117, u 118, u 119, u 120, u 121, u 122, u 123, u 124, u 125, u 126, u 127, u 128, u 129, u 130, u 131, u 132, u 133, u 134, u 135, u 136, u 137, u 138, u 139, u 140, u 141, u 142, u 143, u 144, u 145, u 146, u 147, u 148, u 149, u 150, u 151, u 152, u 153, u 154, u 155, u 156, u 157, u 158], defers := [] }
theorem F159_of (u0 u1 u2 u3 u4 u5 u6 u7 u8 u9 u10 u11 u12 u13 u14 u15 u16 u17 u18 u19 u20 u21 u22 u23 u24 u25 u26 u27 u28 u29 u30 u31 u32 u33 u34 u35 u36 u37 u38 u39 u40 u41 u42 u43 u44 u45 u46 u47 u48 u49 u50 u51 u52 u53 u54 u55 u56 u57 u58 u59 u60 u61 u62 u63 u64 u65 u66 u67 u68 u69 u70 u71 u72 u73 u74 u75 u76 u77 u78 u79 u80 u81 u82 u83 u84 u85 u86 u87 u88 u89 u90 u91 u92 u93 u94 u95 u96 u97 u98 u99 u100 u101 u102 u103 u104 u105 u106 u107 u108 u109 u110 u111 u112 u113 u114 u115 u116 u117 u118 u119 u120 u121 u122 u123 u124 u125 u126 u127 u128 u129 u130 u131 u132 u133 u134 u135 u136 u137 u138 u139 u140 u141 u142 u143 u144 u145 u146 u147 u148 u149 u150 u151 u152 u153 u154 u155 u156 u157 u158 : Value) : ({ tmps := #[u0, u1, u2, u3, u4, u5, u6, u7, u8, u9, u10, u11, u12, u13, u14, u15, u16, u17, u18, u19, u20, u21, u22, u23, u24, u25, u26, u27, u28, u29, u30, u31, u32, u33, u34, u35, u36, u37, u38, u39, u40, u41, u42, u43, u44, u45, u46, u47, u48, u49, u50, u51, u52, u53, u54, u55, u56, u57, u58, u59, u60, u61, u62, u63, u64, u65, u66, u67, u68, u69, u70, u71, u72, u73, u74, u75, u76, u77, u78, u79, u80, u81, u82, u83, u84, u85, u86, u87, u88, u89, u90, u91, u92, u93, u94, u95, u96, u97, u98, u99, u100, u101, u102, u103, u104, u105, u106, u107, u108, u109, u110, u111, u112, u113, u114, u115, u116, u117, u118, u119, u120, u121, u122, u123, u124, u125, u126, u127, u128, u129, u130, u131, u132, u133, u134, u135, u136, u137, u138, u139, u140, u141, u142, u143, u144, u145, u146, u147, u148, u149, u150, u151, u152, u153, u154, u155, u156, u157, u158], defers := [] } : Act) = F159 (fun n => (#[u0, u1, u2, u3, u4, u5, u6, u7, u8, u9, u10, u11, u12, u13, u14, u15, u16, u17, u18, u19, u20, u21, u22, u23, u24, u25, u26, u27, u28, u29, u30, u31, u32, u33, u34, u35, u36, u37, u38, u39, u40, u41, u42, u43, u44, u45, u46, u47, u48, u49, u50, u51, u52, u53, u54, u55, u56, u57, u58, u59, u60, u61, u62, u63, u64, u65, u66, u67, u68, u69, u70, u71, u72, u73, u74, u75, u76, u77, u78, u79, u80, u81, u82, u83, u84, u85, u86, u87, u88, u89, u90, u91, u92, u93, u94, u95, u96, u97, u98, u99, u100, u101, u102, u103, u104, u105, u106, u107, u108, u109, u110, u111, u112, u113, u114, u115, u116, u117, u118, u119, u120, u121, u122, u123, u124, u125, u126, u127, u128, u129, u130, u131, u132, u133, u134, u135, u136, u137, u138, u139, u140, u141, u142, u143, u144, u145, u146, u147, u148, u149, u150, u151, u152, u153, u154, u155, u156, u157, u158] : Array Value).getD n undef) u0 u1 u2 u3 u4 u5 u8 := rfl
/-- Behind each 'if'. -/
def MidB (kv hv id s pk ph : Value) (b : Nat) (kc hc : Array Value) (w : World) (e : Exit) (f : Act) (w' : World) : Prop :=
  match e with
  | .normal => (∃ u, f = F159 u kv hv id s pk ph (.bool false)) ∧ w'.heap[b]? = some (.cells kc 25 (0, 0)) ∧ w'.heap[b + 1]? = some (.cells hc 48 (0, 0)) ∧ Upd Non w w'
  | _ => False
set_option maxHeartbeats 4000000 in
theorem back_any (x : Ky) (nv : Value) (h : Hd) (id : Int) (s : Str) (w : World) (hN : Ints w nv x.ns) (hx : KyOk x) (hi : hdI64 h) (hid : i64Ok id) (hs : s.length ≤ 140737488355328) (ht : Tab w) :
    Calls Tryd.prog 4 #[kyV x nv, hdV h, .int .i64 id, txtV s] w (Ret (.bool true) w) := by
  have hlv := Lib.hid lives21
  have hfe := Lib.hid (fun w' (hu : Upd Non w w') => l21Few x nv w' (hN.upd hu fun _ _ h => h))
  have hky := Lib.hid (fun w' (hu : Upd Non w w') => yKey x nv w' (hN.upd hu fun _ _ h => h) hx.1 hx.2.1 hx.2.2)
  have hpa : Hid ((keyR x).2 = 0 → ∀ w', Calls Tryd.prog 14 #[txtV (keyR x).1] w' (KeyRet x 0 w')) := Lib.hid (fun h w' => by
    have := yParse (keyR x).1 w'
    rw [(key_back h hx.1).1] at this
    exact this)
  have hle : Hid ((keyR x).2 = 0 → (keyR x).1.length ≤ 120) := Lib.hid (fun h => (key_back h hx.1).2)
  have hsa : Hid (∀ w' mv, Upd Non w w' → Ints w' mv x.ns → Calls Tryd.prog 16 #[kyV x mv, kyV x nv] w' (Ret (.bool true) w')) := Lib.hid (fun w' mv hu hM => by
    have := q21Same x x mv nv w' hM (hN.upd hu fun _ _ h => h)
    rw [decide_eq_true rfl] at this
    exact this)
  have hhd := Lib.hid (fun w => yHead h w hi)
  have hrh : Hid ((headR h).2 = 0 → ∀ w', Calls Tryd.prog 18 #[txtV (headR h).1] w' (Ret (.tuple #[hdV h, .int .i64 0]) w')) := Lib.hid (fun e w' => by
    have := yReadHead (headR h).1 w' (by rw [(head_back e).2]; decide)
    rw [(head_back e).1] at this
    exact this)
  have hl11 : Hid ((headR h).2 = 0 → (headR h).1.length = 11) := Lib.hid (fun e => (head_back e).2)
  have hve := Lib.hid (fun w' (hu : Upd Non w w') => yVersion id false w' hid (tab_upd ht hu))
  have hvn := Lib.hid (fun w' (hu : Upd Non w w') => yVersion id true w' hid (tab_upd ht hu))
  have hrv : Hid (0 ≤ id → id ≤ 1152921504606846976 → ∀ w', Upd Non w w' → Calls Tryd.prog 19 #[txtV (verT id false)] w' (Ret (verV (id, false, 0)) w')) := Lib.hid (fun h0 h1 w' hu => by
    have := yReadVersionT (verT id false) w' (tab_upd ht hu)
    rw [ver_back id h0 h1] at this
    exact this)
  have hrn : Hid (∀ w', Upd Non w w' → Calls Tryd.prog 19 #[txtV (verT id true)] w' (Ret (verV (0, true, 0)) w')) := Lib.hid (fun w' hu => by
    have := yReadVersionT (verT id true) w' (tab_upd ht hu)
    rw [ver_null _ id] at this
    exact this)
  have hps := Lib.hid (fun w' => yParse s w')
  have hkp : Hid ((parseR s).2 = 0 → ∀ w' mv, Ints w' mv (parseR s).1.ns → Calls Tryd.prog 10 #[kyV (parseR s).1 mv] w' (Ret (.tuple #[txtV s, .int .i64 0]) w')) := Lib.hid (fun e w' mv hM => by
    obtain ⟨p1, p2, p3⟩ := parse_ok s
    have := yKey (parseR s).1 mv w' hM p1 (by omega) (by omega)
    rw [parse_back e] at this
    exact this)
  have hrs := Lib.hid (fun w' => yReadHead s w' hs)
  have hhs : Hid ((rhR s).2 = 0 → ∀ w', Calls Tryd.prog 17 #[hdV (rhR s).1] w' (Ret (.tuple #[txtV s, .int .i64 0]) w')) := Lib.hid (fun e w' => by
    have := yHead (rhR s).1 w' (rh_i64 s)
    rw [rh_back e] at this
    exact this)
  have hgu := head_eqGuard .neq
  generalize keyR x = a at *
  generalize headR h = b at *
  generalize parseR s = c at *
  generalize rhR s = d at *
  generalize verT id false = vt at *
  generalize verT id true = vn at *
  generalize hfw : decide (fewK x) = fw at *
  obtain ⟨ta, ea⟩ := a
  obtain ⟨tb, eb⟩ := b
  obtain ⟨⟨ck, cb, co, cns⟩, ec⟩ := c
  obtain ⟨⟨d0, d1, d2, d3, d4⟩, ed⟩ := d
  obtain ⟨h0, h1, h2, h3, h4⟩ := h
  obtain ⟨k, xb, xo, ns⟩ := x
  have hnq := head_neq h0 h1 h2 h3 h4
  obtain ⟨na, nc, rfl, hnc, hncm, -⟩ := ints_at hN
  clear hi ht hx hfw hid
  unfold hdV txtV kyV verV at *
  simp only at *
  generalize ns.length = nl at *
  go_enter Tryd.func4, Tryd.ntmps4
  go_wp2_with fail
  refine (hfe.out _ (((Upd.refl Non w).then_alloc _).then_alloc _)).mono ?_
  rintro e w1 ⟨rfl, hu⟩
  have hbk := hu.heap (heap_alloc2_old w (.cells #[.int .i64 k, .string ⟨xb.toArray⟩, .string ⟨xo.toArray⟩, .slice na nl nc] 25) (.cells #[.int .i64 h0, .int .i64 h1, .int .i64 h2, .bool h3, .bool h4] 48)) (fun h => h)
  have hbh := hu.heap (heap_alloc2_new w (.cells #[.int .i64 k, .string ⟨xb.toArray⟩, .string ⟨xo.toArray⟩, .slice na nl nc] 25) (.cells #[.int .i64 h0, .int .i64 h1, .int .i64 h2, .bool h3, .bool h4] 48)) (fun h => h)
  have hX : Upd Non w w1 := (((Upd.refl Non w).then_alloc _).then_alloc _).trans hu fun _ _ h => h
  clear hu
  obtain ⟨x0, x1, x2, x3⟩ := cells4 hbk
  obtain ⟨y0, y1, y2, y3, y4⟩ := cells5 hbh
  cases fw with
  | false =>
    go_wp2_with fail
    refine (hlv.out _).mono ?_
    rintro e w9 ⟨rfl, hu⟩
    go_wp2_with fail
    go_ret
    exact ⟨rfl, hX.trans hu fun _ _ h => h⟩
  | true =>
    go_wp2_with fail
    refine (hky.out _ hX).mono ?_
    rintro e w2 ⟨rfl, hu⟩
    replace hX := hX.trans hu fun _ _ h => h
    replace hbk := hu.heap hbk fun h => h
    replace hbh := hu.heap hbh fun h => h
    clear hu x0 x1 x2 x3 y0 y1 y2 y3 y4
    obtain ⟨x0, x1, x2, x3⟩ := cells4 hbk
    obtain ⟨y0, y1, y2, y3, y4⟩ := cells5 hbh
    iterate 20 (first | go_values | go_skip | go_guarded | go_step | go_upon | go_simp)
    refine Code.wp_mono (Q := MidB (.agg #[.int .i64 k, .string ⟨xb.toArray⟩, .string ⟨xo.toArray⟩, .slice na nl nc]) (.agg #[.int .i64 h0, .int .i64 h1, .int .i64 h2, .bool h3, .bool h4]) (.int .i64 id) (.string ⟨s.toArray⟩) (.pointer (some ⟨w.heap.size, 0, none⟩)) (.pointer (some ⟨w.heap.size + 1, 0, none⟩)) w.heap.size #[.int .i64 k, .string ⟨xb.toArray⟩, .string ⟨xo.toArray⟩, .slice na nl nc] #[.int .i64 h0, .int .i64 h1, .int .i64 h2, .bool h3, .bool h4] w) ?_ ?_
    rotate_left
    · by_cases he : ea = 0
      · subst he
        replace hpa := Lib.hid (hpa.out rfl)
        replace hle := hle.out rfl
        go_wp2_with fail
        refine (hpa.out _).mono ?_
        rintro e w3 ⟨mv, rfl, hM, hu⟩
        replace hX := hX.trans hu fun _ _ h => h
        replace hbk := hu.heap hbk fun h => h
        replace hbh := hu.heap hbh fun h => h
        clear hu x0 x1 x2 x3 y0 y1 y2 y3 y4
        obtain ⟨x0, x1, x2, x3⟩ := cells4 hbk
        obtain ⟨y0, y1, y2, y3, y4⟩ := cells5 hbh
        unfold kyV txtV at *
        obtain ⟨ma, mc, rfl, -, -, -⟩ := ints_at hM
        simp only at *
        have z0 := fun X => (cells4 ((Upd.alloc Non w3 X).heap hbk fun h => h)).1
        have z1 := fun X => (cells4 ((Upd.alloc Non w3 X).heap hbk fun h => h)).2.1
        have z2 := fun X => (cells4 ((Upd.alloc Non w3 X).heap hbk fun h => h)).2.2.1
        have z3 := fun X => (cells4 ((Upd.alloc Non w3 X).heap hbk fun h => h)).2.2.2
        have z4 := fun X => (cells5 ((Upd.alloc Non w3 X).heap hbh fun h => h)).1
        have z5 := fun X => (cells5 ((Upd.alloc Non w3 X).heap hbh fun h => h)).2.1
        have z6 := fun X => (cells5 ((Upd.alloc Non w3 X).heap hbh fun h => h)).2.2.1
        have z7 := fun X => (cells5 ((Upd.alloc Non w3 X).heap hbh fun h => h)).2.2.2.1
        have z8 := fun X => (cells5 ((Upd.alloc Non w3 X).heap hbh fun h => h)).2.2.2.2
        go_wp2_with fail
        refine (hsa.out _ _ (hX.then_alloc _) (hM.upd (Upd.alloc Non w3 _) fun _ _ h => h)).mono ?_
        rintro e w4 ⟨rfl, hu⟩
        replace hu := (Upd.alloc Non w3 _).trans hu fun _ _ h => h
        replace hX := hX.trans hu fun _ _ h => h
        replace hbk := hu.heap hbk fun h => h
        replace hbh := hu.heap hbh fun h => h
        clear hu x0 x1 x2 x3 y0 y1 y2 y3 y4
        obtain ⟨x0, x1, x2, x3⟩ := cells4 hbk
        obtain ⟨y0, y1, y2, y3, y4⟩ := cells5 hbh
        go_wp2_with fail
        exact ⟨⟨_, F159_of _ _ _ _ _ _ _ _ _ _ _ _ _ _ _ _ _ _ _ _ _ _ _ _ _ _ _ _ _ _ _ _ _ _ _ _ _ _ _ _ _ _ _ _ _ _ _ _ _ _ _ _ _ _ _ _ _ _ _ _ _ _ _ _ _ _ _ _ _ _ _ _ _ _ _ _ _ _ _ _ _ _ _ _ _ _ _ _ _ _ _ _ _ _ _ _ _ _ _ _ _ _ _ _ _ _ _ _ _ _ _ _ _ _ _ _ _ _ _ _ _ _ _ _ _ _ _ _ _ _ _ _ _ _ _ _ _ _ _ _ _ _ _ _ _ _ _ _ _ _ _ _ _ _ _ _ _ _ _⟩, hbk, hbh, hX⟩
      · have he2 : (ea == 0) = false := by simp [he]
        replace he := Lib.hid he
        go_wp2_with fail
        exact ⟨⟨_, F159_of _ _ _ _ _ _ _ _ _ _ _ _ _ _ _ _ _ _ _ _ _ _ _ _ _ _ _ _ _ _ _ _ _ _ _ _ _ _ _ _ _ _ _ _ _ _ _ _ _ _ _ _ _ _ _ _ _ _ _ _ _ _ _ _ _ _ _ _ _ _ _ _ _ _ _ _ _ _ _ _ _ _ _ _ _ _ _ _ _ _ _ _ _ _ _ _ _ _ _ _ _ _ _ _ _ _ _ _ _ _ _ _ _ _ _ _ _ _ _ _ _ _ _ _ _ _ _ _ _ _ _ _ _ _ _ _ _ _ _ _ _ _ _ _ _ _ _ _ _ _ _ _ _ _ _ _ _ _ _⟩, hbk, hbh, hX⟩
    intro e f w3 hq
    clear hbk hbh hX x0 x1 x2 x3 y0 y1 y2 y3 y4
    cases e <;> first | exact hq.elim | skip
    obtain ⟨⟨u, rfl⟩, hbk, hbh, hX⟩ := hq
    obtain ⟨x0, x1, x2, x3⟩ := cells4 hbk
    obtain ⟨y0, y1, y2, y3, y4⟩ := cells5 hbh
    unfold F159
    go_wp2_with fail
    refine (hhd.out _).mono ?_
    rintro e w4 ⟨rfl, hu⟩
    replace hX := hX.trans hu fun _ _ h => h
    replace hbk := hu.heap hbk fun h => h
    replace hbh := hu.heap hbh fun h => h
    clear hu x0 x1 x2 x3 y0 y1 y2 y3 y4
    obtain ⟨x0, x1, x2, x3⟩ := cells4 hbk
    obtain ⟨y0, y1, y2, y3, y4⟩ := cells5 hbh
    iterate 20 (first | go_values | go_skip | go_guarded | go_step | go_upon | go_simp)
    refine Code.wp_mono (Q := MidB (.agg #[.int .i64 k, .string ⟨xb.toArray⟩, .string ⟨xo.toArray⟩, .slice na nl nc]) (.agg #[.int .i64 h0, .int .i64 h1, .int .i64 h2, .bool h3, .bool h4]) (.int .i64 id) (.string ⟨s.toArray⟩) (.pointer (some ⟨w.heap.size, 0, none⟩)) (.pointer (some ⟨w.heap.size + 1, 0, none⟩)) w.heap.size #[.int .i64 k, .string ⟨xb.toArray⟩, .string ⟨xo.toArray⟩, .slice na nl nc] #[.int .i64 h0, .int .i64 h1, .int .i64 h2, .bool h3, .bool h4] w) ?_ ?_
    rotate_left
    · by_cases he : eb = 0
      · subst he
        replace hrh := Lib.hid (hrh.out rfl)
        replace hl11 := hl11.out rfl
        go_wp2_with fail
        refine (hrh.out _).mono ?_
        rintro e w3 ⟨rfl, hu⟩
        replace hX := hX.trans hu fun _ _ h => h
        replace hbk := hu.heap hbk fun h => h
        replace hbh := hu.heap hbh fun h => h
        clear hu x0 x1 x2 x3 y0 y1 y2 y3 y4
        obtain ⟨x0, x1, x2, x3⟩ := cells4 hbk
        obtain ⟨y0, y1, y2, y3, y4⟩ := cells5 hbh
        have z0 := fun X => (cells4 ((Upd.alloc Non w3 X).heap hbk fun h => h)).1
        have z1 := fun X => (cells4 ((Upd.alloc Non w3 X).heap hbk fun h => h)).2.1
        have z2 := fun X => (cells4 ((Upd.alloc Non w3 X).heap hbk fun h => h)).2.2.1
        have z3 := fun X => (cells4 ((Upd.alloc Non w3 X).heap hbk fun h => h)).2.2.2
        have z4 := fun X => (cells5 ((Upd.alloc Non w3 X).heap hbh fun h => h)).1
        have z5 := fun X => (cells5 ((Upd.alloc Non w3 X).heap hbh fun h => h)).2.1
        have z6 := fun X => (cells5 ((Upd.alloc Non w3 X).heap hbh fun h => h)).2.2.1
        have z7 := fun X => (cells5 ((Upd.alloc Non w3 X).heap hbh fun h => h)).2.2.2.1
        have z8 := fun X => (cells5 ((Upd.alloc Non w3 X).heap hbh fun h => h)).2.2.2.2
        go_wp2_with fail
        replace hX := hX.then_alloc (.cells #[.int .i64 h0, .int .i64 h1, .int .i64 h2, .bool h3, .bool h4] 48)
        replace hbk := (Upd.alloc Non w3 (.cells #[.int .i64 h0, .int .i64 h1, .int .i64 h2, .bool h3, .bool h4] 48)).heap hbk fun h => h
        replace hbh := (Upd.alloc Non w3 (.cells #[.int .i64 h0, .int .i64 h1, .int .i64 h2, .bool h3, .bool h4] 48)).heap hbh fun h => h
        exact ⟨⟨_, F159_of _ _ _ _ _ _ _ _ _ _ _ _ _ _ _ _ _ _ _ _ _ _ _ _ _ _ _ _ _ _ _ _ _ _ _ _ _ _ _ _ _ _ _ _ _ _ _ _ _ _ _ _ _ _ _ _ _ _ _ _ _ _ _ _ _ _ _ _ _ _ _ _ _ _ _ _ _ _ _ _ _ _ _ _ _ _ _ _ _ _ _ _ _ _ _ _ _ _ _ _ _ _ _ _ _ _ _ _ _ _ _ _ _ _ _ _ _ _ _ _ _ _ _ _ _ _ _ _ _ _ _ _ _ _ _ _ _ _ _ _ _ _ _ _ _ _ _ _ _ _ _ _ _ _ _ _ _ _ _⟩, hbk, hbh, hX⟩
      · have he2 : (eb == 0) = false := by simp [he]
        replace he := Lib.hid he
        go_wp2_with fail
        exact ⟨⟨_, F159_of _ _ _ _ _ _ _ _ _ _ _ _ _ _ _ _ _ _ _ _ _ _ _ _ _ _ _ _ _ _ _ _ _ _ _ _ _ _ _ _ _ _ _ _ _ _ _ _ _ _ _ _ _ _ _ _ _ _ _ _ _ _ _ _ _ _ _ _ _ _ _ _ _ _ _ _ _ _ _ _ _ _ _ _ _ _ _ _ _ _ _ _ _ _ _ _ _ _ _ _ _ _ _ _ _ _ _ _ _ _ _ _ _ _ _ _ _ _ _ _ _ _ _ _ _ _ _ _ _ _ _ _ _ _ _ _ _ _ _ _ _ _ _ _ _ _ _ _ _ _ _ _ _ _ _ _ _ _ _⟩, hbk, hbh, hX⟩
    intro e f w3 hq
    clear hbk hbh hX x0 x1 x2 x3 y0 y1 y2 y3 y4
    cases e <;> first | exact hq.elim | skip
    obtain ⟨⟨u, rfl⟩, hbk, hbh, hX⟩ := hq
    obtain ⟨x0, x1, x2, x3⟩ := cells4 hbk
    obtain ⟨y0, y1, y2, y3, y4⟩ := cells5 hbh
    unfold F159
    iterate 3 (first | go_values | go_skip | go_guarded | go_step | go_upon | go_simp)
    refine Code.wp_mono (Q := MidB (.agg #[.int .i64 k, .string ⟨xb.toArray⟩, .string ⟨xo.toArray⟩, .slice na nl nc]) (.agg #[.int .i64 h0, .int .i64 h1, .int .i64 h2, .bool h3, .bool h4]) (.int .i64 id) (.string ⟨s.toArray⟩) (.pointer (some ⟨w.heap.size, 0, none⟩)) (.pointer (some ⟨w.heap.size + 1, 0, none⟩)) w.heap.size #[.int .i64 k, .string ⟨xb.toArray⟩, .string ⟨xo.toArray⟩, .slice na nl nc] #[.int .i64 h0, .int .i64 h1, .int .i64 h2, .bool h3, .bool h4] w) ?_ ?_
    rotate_left
    · by_cases he : 0 ≤ id
      · by_cases hf : id ≤ 1152921504606846976
        · replace hrv := Lib.hid (hrv.out he hf)
          go_wp2_with fail
          refine (hve.out _ hX).mono ?_
          rintro e w4 ⟨rfl, hu⟩
          replace hX := hX.trans hu fun _ _ h => h
          replace hbk := hu.heap hbk fun h => h
          replace hbh := hu.heap hbh fun h => h
          clear hu x0 x1 x2 x3 y0 y1 y2 y3 y4
          obtain ⟨x0, x1, x2, x3⟩ := cells4 hbk
          obtain ⟨y0, y1, y2, y3, y4⟩ := cells5 hbh
          go_wp2_with fail
          refine (hrv.out _ hX).mono ?_
          rintro e w5 ⟨rfl, hu⟩
          replace hX := hX.trans hu fun _ _ h => h
          replace hbk := hu.heap hbk fun h => h
          replace hbh := hu.heap hbh fun h => h
          clear hu x0 x1 x2 x3 y0 y1 y2 y3 y4
          obtain ⟨x0, x1, x2, x3⟩ := cells4 hbk
          obtain ⟨y0, y1, y2, y3, y4⟩ := cells5 hbh
          go_wp2_with fail
          exact ⟨⟨_, F159_of _ _ _ _ _ _ _ _ _ _ _ _ _ _ _ _ _ _ _ _ _ _ _ _ _ _ _ _ _ _ _ _ _ _ _ _ _ _ _ _ _ _ _ _ _ _ _ _ _ _ _ _ _ _ _ _ _ _ _ _ _ _ _ _ _ _ _ _ _ _ _ _ _ _ _ _ _ _ _ _ _ _ _ _ _ _ _ _ _ _ _ _ _ _ _ _ _ _ _ _ _ _ _ _ _ _ _ _ _ _ _ _ _ _ _ _ _ _ _ _ _ _ _ _ _ _ _ _ _ _ _ _ _ _ _ _ _ _ _ _ _ _ _ _ _ _ _ _ _ _ _ _ _ _ _ _ _ _ _⟩, hbk, hbh, hX⟩
        · go_wp2_with fail
          exact ⟨⟨_, F159_of _ _ _ _ _ _ _ _ _ _ _ _ _ _ _ _ _ _ _ _ _ _ _ _ _ _ _ _ _ _ _ _ _ _ _ _ _ _ _ _ _ _ _ _ _ _ _ _ _ _ _ _ _ _ _ _ _ _ _ _ _ _ _ _ _ _ _ _ _ _ _ _ _ _ _ _ _ _ _ _ _ _ _ _ _ _ _ _ _ _ _ _ _ _ _ _ _ _ _ _ _ _ _ _ _ _ _ _ _ _ _ _ _ _ _ _ _ _ _ _ _ _ _ _ _ _ _ _ _ _ _ _ _ _ _ _ _ _ _ _ _ _ _ _ _ _ _ _ _ _ _ _ _ _ _ _ _ _ _⟩, hbk, hbh, hX⟩
      · go_wp2_with fail
        exact ⟨⟨_, F159_of _ _ _ _ _ _ _ _ _ _ _ _ _ _ _ _ _ _ _ _ _ _ _ _ _ _ _ _ _ _ _ _ _ _ _ _ _ _ _ _ _ _ _ _ _ _ _ _ _ _ _ _ _ _ _ _ _ _ _ _ _ _ _ _ _ _ _ _ _ _ _ _ _ _ _ _ _ _ _ _ _ _ _ _ _ _ _ _ _ _ _ _ _ _ _ _ _ _ _ _ _ _ _ _ _ _ _ _ _ _ _ _ _ _ _ _ _ _ _ _ _ _ _ _ _ _ _ _ _ _ _ _ _ _ _ _ _ _ _ _ _ _ _ _ _ _ _ _ _ _ _ _ _ _ _ _ _ _ _⟩, hbk, hbh, hX⟩
    intro e f w3 hq
    clear hbk hbh hX x0 x1 x2 x3 y0 y1 y2 y3 y4
    cases e <;> first | exact hq.elim | skip
    obtain ⟨⟨u, rfl⟩, hbk, hbh, hX⟩ := hq
    obtain ⟨x0, x1, x2, x3⟩ := cells4 hbk
    obtain ⟨y0, y1, y2, y3, y4⟩ := cells5 hbh
    unfold F159
    go_wp2_with fail
    refine (hvn.out _ hX).mono ?_
    rintro e w4 ⟨rfl, hu⟩
    replace hX := hX.trans hu fun _ _ h => h
    replace hbk := hu.heap hbk fun h => h
    replace hbh := hu.heap hbh fun h => h
    clear hu x0 x1 x2 x3 y0 y1 y2 y3 y4
    obtain ⟨x0, x1, x2, x3⟩ := cells4 hbk
    obtain ⟨y0, y1, y2, y3, y4⟩ := cells5 hbh
    go_wp2_with fail
    refine (hrn.out _ hX).mono ?_
    rintro e w5 ⟨rfl, hu⟩
    replace hX := hX.trans hu fun _ _ h => h
    replace hbk := hu.heap hbk fun h => h
    replace hbh := hu.heap hbh fun h => h
    clear hu x0 x1 x2 x3 y0 y1 y2 y3 y4
    obtain ⟨x0, x1, x2, x3⟩ := cells4 hbk
    obtain ⟨y0, y1, y2, y3, y4⟩ := cells5 hbh
    go_wp2_with fail
    refine (hps.out _).mono ?_
    rintro e w6 ⟨mv, rfl, hM, hu⟩
    replace hX := hX.trans hu fun _ _ h => h
    replace hbk := hu.heap hbk fun h => h
    replace hbh := hu.heap hbh fun h => h
    clear hu x0 x1 x2 x3 y0 y1 y2 y3 y4
    obtain ⟨x0, x1, x2, x3⟩ := cells4 hbk
    obtain ⟨y0, y1, y2, y3, y4⟩ := cells5 hbh
    unfold kyV txtV at *
    obtain ⟨ma, mc, rfl, -, -, -⟩ := ints_at hM
    simp only at *
    have z0 := fun X => (cells4 ((Upd.alloc Non w6 X).heap hbk fun h => h)).1
    have z1 := fun X => (cells4 ((Upd.alloc Non w6 X).heap hbk fun h => h)).2.1
    have z2 := fun X => (cells4 ((Upd.alloc Non w6 X).heap hbk fun h => h)).2.2.1
    have z3 := fun X => (cells4 ((Upd.alloc Non w6 X).heap hbk fun h => h)).2.2.2
    have z4 := fun X => (cells5 ((Upd.alloc Non w6 X).heap hbh fun h => h)).1
    have z5 := fun X => (cells5 ((Upd.alloc Non w6 X).heap hbh fun h => h)).2.1
    have z6 := fun X => (cells5 ((Upd.alloc Non w6 X).heap hbh fun h => h)).2.2.1
    have z7 := fun X => (cells5 ((Upd.alloc Non w6 X).heap hbh fun h => h)).2.2.2.1
    have z8 := fun X => (cells5 ((Upd.alloc Non w6 X).heap hbh fun h => h)).2.2.2.2
    iterate 22 (first | go_values | go_skip | go_guarded | go_step | go_upon | go_simp)
    refine Code.wp_mono (Q := MidB (.agg #[.int .i64 k, .string ⟨xb.toArray⟩, .string ⟨xo.toArray⟩, .slice na nl nc]) (.agg #[.int .i64 h0, .int .i64 h1, .int .i64 h2, .bool h3, .bool h4]) (.int .i64 id) (.string ⟨s.toArray⟩) (.pointer (some ⟨w.heap.size, 0, none⟩)) (.pointer (some ⟨w.heap.size + 1, 0, none⟩)) w.heap.size #[.int .i64 k, .string ⟨xb.toArray⟩, .string ⟨xo.toArray⟩, .slice na nl nc] #[.int .i64 h0, .int .i64 h1, .int .i64 h2, .bool h3, .bool h4] w) ?_ ?_
    rotate_left
    · clear x0 x1 x2 x3 y0 y1 y2 y3 y4 z0 z1 z2 z3 z4 z5 z6 z7 z8
      replace hX := hX.then_alloc (.cells #[.int .i64 ck, .string ⟨cb.toArray⟩, .string ⟨co.toArray⟩, .slice ma cns.length mc] 25)
      replace hbk := (Upd.alloc Non w6 (.cells #[.int .i64 ck, .string ⟨cb.toArray⟩, .string ⟨co.toArray⟩, .slice ma cns.length mc] 25)).heap hbk fun h => h
      replace hbh := (Upd.alloc Non w6 (.cells #[.int .i64 ck, .string ⟨cb.toArray⟩, .string ⟨co.toArray⟩, .slice ma cns.length mc] 25)).heap hbh fun h => h
      by_cases he : ec = 0
      · subst he
        replace hkp := Lib.hid (hkp.out rfl)
        replace hM := hM.upd (Upd.alloc Non w6 (.cells #[.int .i64 ck, .string ⟨cb.toArray⟩, .string ⟨co.toArray⟩, .slice ma cns.length mc] 25)) fun _ _ h => h
        go_wp2_with fail
        refine (hkp.out _ _ hM).mono ?_
        rintro e w7 ⟨rfl, hu⟩
        have x0 := hbk; have x1 := hbk; have x2 := hbk; have x3 := hbk; have y0 := hbk; have y1 := hbk; have y2 := hbk; have y3 := hbk; have y4 := hbk
        replace hX := hX.trans hu fun _ _ h => h
        replace hbk := hu.heap hbk fun h => h
        replace hbh := hu.heap hbh fun h => h
        clear hu x0 x1 x2 x3 y0 y1 y2 y3 y4
        obtain ⟨x0, x1, x2, x3⟩ := cells4 hbk
        obtain ⟨y0, y1, y2, y3, y4⟩ := cells5 hbh
        go_wp2_with fail
        exact ⟨⟨_, F159_of _ _ _ _ _ _ _ _ _ _ _ _ _ _ _ _ _ _ _ _ _ _ _ _ _ _ _ _ _ _ _ _ _ _ _ _ _ _ _ _ _ _ _ _ _ _ _ _ _ _ _ _ _ _ _ _ _ _ _ _ _ _ _ _ _ _ _ _ _ _ _ _ _ _ _ _ _ _ _ _ _ _ _ _ _ _ _ _ _ _ _ _ _ _ _ _ _ _ _ _ _ _ _ _ _ _ _ _ _ _ _ _ _ _ _ _ _ _ _ _ _ _ _ _ _ _ _ _ _ _ _ _ _ _ _ _ _ _ _ _ _ _ _ _ _ _ _ _ _ _ _ _ _ _ _ _ _ _ _⟩, hbk, hbh, hX⟩
      · have he2 : (ec == 0) = false := by simp [he]
        replace he := Lib.hid he
        go_wp2_with fail
        exact ⟨⟨_, F159_of _ _ _ _ _ _ _ _ _ _ _ _ _ _ _ _ _ _ _ _ _ _ _ _ _ _ _ _ _ _ _ _ _ _ _ _ _ _ _ _ _ _ _ _ _ _ _ _ _ _ _ _ _ _ _ _ _ _ _ _ _ _ _ _ _ _ _ _ _ _ _ _ _ _ _ _ _ _ _ _ _ _ _ _ _ _ _ _ _ _ _ _ _ _ _ _ _ _ _ _ _ _ _ _ _ _ _ _ _ _ _ _ _ _ _ _ _ _ _ _ _ _ _ _ _ _ _ _ _ _ _ _ _ _ _ _ _ _ _ _ _ _ _ _ _ _ _ _ _ _ _ _ _ _ _ _ _ _ _⟩, hbk, hbh, hX⟩
    clear z0 z1 z2 z3 z4 z5 z6 z7 z8
    intro e f w3 hq
    clear hbk hbh hX x0 x1 x2 x3 y0 y1 y2 y3 y4
    cases e <;> first | exact hq.elim | skip
    obtain ⟨⟨u, rfl⟩, hbk, hbh, hX⟩ := hq
    obtain ⟨x0, x1, x2, x3⟩ := cells4 hbk
    obtain ⟨y0, y1, y2, y3, y4⟩ := cells5 hbh
    unfold F159
    go_wp2_with fail
    refine (hrs.out _).mono ?_
    rintro e w7 ⟨rfl, hu⟩
    replace hX := hX.trans hu fun _ _ h => h
    replace hbk := hu.heap hbk fun h => h
    replace hbh := hu.heap hbh fun h => h
    clear hu x0 x1 x2 x3 y0 y1 y2 y3 y4
    obtain ⟨x0, x1, x2, x3⟩ := cells4 hbk
    obtain ⟨y0, y1, y2, y3, y4⟩ := cells5 hbh
    have z0 := fun X => (cells4 ((Upd.alloc Non w7 X).heap hbk fun h => h)).1
    have z1 := fun X => (cells4 ((Upd.alloc Non w7 X).heap hbk fun h => h)).2.1
    have z2 := fun X => (cells4 ((Upd.alloc Non w7 X).heap hbk fun h => h)).2.2.1
    have z3 := fun X => (cells4 ((Upd.alloc Non w7 X).heap hbk fun h => h)).2.2.2
    have z4 := fun X => (cells5 ((Upd.alloc Non w7 X).heap hbh fun h => h)).1
    have z5 := fun X => (cells5 ((Upd.alloc Non w7 X).heap hbh fun h => h)).2.1
    have z6 := fun X => (cells5 ((Upd.alloc Non w7 X).heap hbh fun h => h)).2.2.1
    have z7 := fun X => (cells5 ((Upd.alloc Non w7 X).heap hbh fun h => h)).2.2.2.1
    have z8 := fun X => (cells5 ((Upd.alloc Non w7 X).heap hbh fun h => h)).2.2.2.2
    iterate 23 (first | go_values | go_skip | go_guarded | go_step | go_upon | go_simp)
    refine Code.wp_mono (Q := MidB (.agg #[.int .i64 k, .string ⟨xb.toArray⟩, .string ⟨xo.toArray⟩, .slice na nl nc]) (.agg #[.int .i64 h0, .int .i64 h1, .int .i64 h2, .bool h3, .bool h4]) (.int .i64 id) (.string ⟨s.toArray⟩) (.pointer (some ⟨w.heap.size, 0, none⟩)) (.pointer (some ⟨w.heap.size + 1, 0, none⟩)) w.heap.size #[.int .i64 k, .string ⟨xb.toArray⟩, .string ⟨xo.toArray⟩, .slice na nl nc] #[.int .i64 h0, .int .i64 h1, .int .i64 h2, .bool h3, .bool h4] w) ?_ ?_
    rotate_left
    · clear x0 x1 x2 x3 y0 y1 y2 y3 y4 z0 z1 z2 z3 z4 z5 z6 z7 z8
      replace hX := hX.then_alloc (.cells #[.int .i64 d0, .int .i64 d1, .int .i64 d2, .bool d3, .bool d4] 48)
      replace hbk := (Upd.alloc Non w7 (.cells #[.int .i64 d0, .int .i64 d1, .int .i64 d2, .bool d3, .bool d4] 48)).heap hbk fun h => h
      replace hbh := (Upd.alloc Non w7 (.cells #[.int .i64 d0, .int .i64 d1, .int .i64 d2, .bool d3, .bool d4] 48)).heap hbh fun h => h
      by_cases he : ed = 0
      · subst he
        replace hhs := Lib.hid (hhs.out rfl)
        go_wp2_with fail
        refine (hhs.out _).mono ?_
        rintro e w8 ⟨rfl, hu⟩
        have x0 := hbk; have x1 := hbk; have x2 := hbk; have x3 := hbk; have y0 := hbk; have y1 := hbk; have y2 := hbk; have y3 := hbk; have y4 := hbk
        replace hX := hX.trans hu fun _ _ h => h
        replace hbk := hu.heap hbk fun h => h
        replace hbh := hu.heap hbh fun h => h
        clear hu x0 x1 x2 x3 y0 y1 y2 y3 y4
        obtain ⟨x0, x1, x2, x3⟩ := cells4 hbk
        obtain ⟨y0, y1, y2, y3, y4⟩ := cells5 hbh
        go_wp2_with fail
        exact ⟨⟨_, F159_of _ _ _ _ _ _ _ _ _ _ _ _ _ _ _ _ _ _ _ _ _ _ _ _ _ _ _ _ _ _ _ _ _ _ _ _ _ _ _ _ _ _ _ _ _ _ _ _ _ _ _ _ _ _ _ _ _ _ _ _ _ _ _ _ _ _ _ _ _ _ _ _ _ _ _ _ _ _ _ _ _ _ _ _ _ _ _ _ _ _ _ _ _ _ _ _ _ _ _ _ _ _ _ _ _ _ _ _ _ _ _ _ _ _ _ _ _ _ _ _ _ _ _ _ _ _ _ _ _ _ _ _ _ _ _ _ _ _ _ _ _ _ _ _ _ _ _ _ _ _ _ _ _ _ _ _ _ _ _⟩, hbk, hbh, hX⟩
      · have he2 : (ed == 0) = false := by simp [he]
        replace he := Lib.hid he
        go_wp2_with fail
        exact ⟨⟨_, F159_of _ _ _ _ _ _ _ _ _ _ _ _ _ _ _ _ _ _ _ _ _ _ _ _ _ _ _ _ _ _ _ _ _ _ _ _ _ _ _ _ _ _ _ _ _ _ _ _ _ _ _ _ _ _ _ _ _ _ _ _ _ _ _ _ _ _ _ _ _ _ _ _ _ _ _ _ _ _ _ _ _ _ _ _ _ _ _ _ _ _ _ _ _ _ _ _ _ _ _ _ _ _ _ _ _ _ _ _ _ _ _ _ _ _ _ _ _ _ _ _ _ _ _ _ _ _ _ _ _ _ _ _ _ _ _ _ _ _ _ _ _ _ _ _ _ _ _ _ _ _ _ _ _ _ _ _ _ _ _⟩, hbk, hbh, hX⟩
    clear z0 z1 z2 z3 z4 z5 z6 z7 z8
    intro e f w3 hq
    clear hbk hbh hX x0 x1 x2 x3 y0 y1 y2 y3 y4
    cases e <;> first | exact hq.elim | skip
    obtain ⟨⟨u, rfl⟩, hbk, hbh, hX⟩ := hq
    obtain ⟨x0, x1, x2, x3⟩ := cells4 hbk
    obtain ⟨y0, y1, y2, y3, y4⟩ := cells5 hbh
    unfold F159
    go_wp2_with fail
    refine (hlv.out _).mono ?_
    rintro e w9 ⟨rfl, hu⟩
    go_wp2_with fail
    go_ret
    exact ⟨rfl, hX.trans hu fun _ _ h => h⟩
end Go.Proofs.YtaflpabpkpfifaaDoor
