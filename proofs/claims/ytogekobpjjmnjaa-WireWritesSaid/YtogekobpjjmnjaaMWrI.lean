/- The walk over ambryref24.Right (printed by gen/mkright24.py), and Check. -/
import Derived.Test.YtogekobpjjmnjaaMWrX
import Derived.Test.YtogekobpjjmnjaaMBlA
import Derived.Deep.Cut
namespace Go.Proofs.Ytogekobpjjmnjaa
open Go.RowKit Go.Amb
set_option linter.unusedVariables false
set_option linter.unusedSimpArgs false
set_option maxRecDepth 100000
attribute [local go_sem ↓] Go.wp_at_zero Go.wp_at_succ
theorem good_snoc {l : List Int} (i : Nat) (h : i < l.length) (h0 : ∀ p ∈ l.take i, 0 ≤ p ∧ p ≤ 255) (h1 : 0 ≤ l[i] ∧ l[i] ≤ 255) : ∀ p ∈ l.take (i + 1), 0 ≤ p ∧ p ≤ 255 := by
  intro p hp
  rw [List.take_add_one, List.getElem?_eq_getElem h, Option.toList_some, List.mem_append, List.mem_singleton] at hp
  rcases hp with hp | rfl
  · exact h0 p hp
  · exact h1
def FR (u : Nat → Value) : Act := { tmps := #[u 0, u 1, u 2, u 3, u 4, u 5, u 6, u 7, u 8, u 9, u 10, u 11, u 12, u 13, u 14, u 15, u 16, u 17, u 18, u 19, u 20, u 21, u 22, u 23, u 24, u 25, u 26, u 27, u 28, u 29, u 30, u 31, u 32, u 33, u 34, u 35, u 36, u 37, u 38, u 39, u 40, u 41, u 42, u 43, u 44, u 45, u 46, u 47, u 48, u 49, u 50, u 51, u 52, u 53, u 54, u 55, u 56, u 57, u 58, u 59, u 60, u 61, u 62, u 63, u 64, u 65, u 66, u 67, u 68, u 69, u 70, u 71, u 72, u 73, u 74, u 75, u 76, u 77, u 78, u 79, u 80, u 81, u 82, u 83, u 84, u 85, u 86, u 87, u 88, u 89, u 90, u 91, u 92, u 93, u 94, u 95, u 96, u 97, u 98, u 99, u 100, u 101, u 102, u 103, u 104, u 105, u 106, u 107, u 108, u 109, u 110, u 111, u 112, u 113, u 114, u 115, u 116, u 117, u 118, u 119, u 120, u 121, u 122, u 123, u 124, u 125, u 126, u 127, u 128, u 129, u 130, u 131, u 132, u 133, u 134, u 135, u 136, u 137, u 138, u 139, u 140, u 141, u 142, u 143, u 144, u 145, u 146, u 147, u 148, u 149, u 150, u 151, u 152, u 153, u 154, u 155, u 156, u 157, u 158, u 159, u 160, u 161, u 162, u 163, u 164, u 165, u 166, u 167, u 168, u 169, u 170, u 171, u 172, u 173, u 174, u 175, u 176, u 177, u 178, u 179, u 180, u 181, u 182, u 183, u 184, u 185, u 186, u 187, u 188, u 189, u 190, u 191, u 192, u 193, u 194, u 195, u 196, u 197, u 198, u 199, u 200, u 201, u 202, u 203, u 204, u 205, u 206, u 207, u 208, u 209, u 210, u 211, u 212, u 213, u 214, u 215, u 216, u 217, u 218, u 219, u 220, u 221, u 222, u 223, u 224, u 225, u 226, u 227], defers := [] }
theorem FR_of (u0 u1 u2 u3 u4 u5 u6 u7 u8 u9 u10 u11 u12 u13 u14 u15 u16 u17 u18 u19 u20 u21 u22 u23 u24 u25 u26 u27 u28 u29 u30 u31 u32 u33 u34 u35 u36 u37 u38 u39 u40 u41 u42 u43 u44 u45 u46 u47 u48 u49 u50 u51 u52 u53 u54 u55 u56 u57 u58 u59 u60 u61 u62 u63 u64 u65 u66 u67 u68 u69 u70 u71 u72 u73 u74 u75 u76 u77 u78 u79 u80 u81 u82 u83 u84 u85 u86 u87 u88 u89 u90 u91 u92 u93 u94 u95 u96 u97 u98 u99 u100 u101 u102 u103 u104 u105 u106 u107 u108 u109 u110 u111 u112 u113 u114 u115 u116 u117 u118 u119 u120 u121 u122 u123 u124 u125 u126 u127 u128 u129 u130 u131 u132 u133 u134 u135 u136 u137 u138 u139 u140 u141 u142 u143 u144 u145 u146 u147 u148 u149 u150 u151 u152 u153 u154 u155 u156 u157 u158 u159 u160 u161 u162 u163 u164 u165 u166 u167 u168 u169 u170 u171 u172 u173 u174 u175 u176 u177 u178 u179 u180 u181 u182 u183 u184 u185 u186 u187 u188 u189 u190 u191 u192 u193 u194 u195 u196 u197 u198 u199 u200 u201 u202 u203 u204 u205 u206 u207 u208 u209 u210 u211 u212 u213 u214 u215 u216 u217 u218 u219 u220 u221 u222 u223 u224 u225 u226 u227 : Value) : ({ tmps := #[u0, u1, u2, u3, u4, u5, u6, u7, u8, u9, u10, u11, u12, u13, u14, u15, u16, u17, u18, u19, u20, u21, u22, u23, u24, u25, u26, u27, u28, u29, u30, u31, u32, u33, u34, u35, u36, u37, u38, u39, u40, u41, u42, u43, u44, u45, u46, u47, u48, u49, u50, u51, u52, u53, u54, u55, u56, u57, u58, u59, u60, u61, u62, u63, u64, u65, u66, u67, u68, u69, u70, u71, u72, u73, u74, u75, u76, u77, u78, u79, u80, u81, u82, u83, u84, u85, u86, u87, u88, u89, u90, u91, u92, u93, u94, u95, u96, u97, u98, u99, u100, u101, u102, u103, u104, u105, u106, u107, u108, u109, u110, u111, u112, u113, u114, u115, u116, u117, u118, u119, u120, u121, u122, u123, u124, u125, u126, u127, u128, u129, u130, u131, u132, u133, u134, u135, u136, u137, u138, u139, u140, u141, u142, u143, u144, u145, u146, u147, u148, u149, u150, u151, u152, u153, u154, u155, u156, u157, u158, u159, u160, u161, u162, u163, u164, u165, u166, u167, u168, u169, u170, u171, u172, u173, u174, u175, u176, u177, u178, u179, u180, u181, u182, u183, u184, u185, u186, u187, u188, u189, u190, u191, u192, u193, u194, u195, u196, u197, u198, u199, u200, u201, u202, u203, u204, u205, u206, u207, u208, u209, u210, u211, u212, u213, u214, u215, u216, u217, u218, u219, u220, u221, u222, u223, u224, u225, u226, u227], defers := [] } : Act) = FR (fun n => ({ tmps := #[u0, u1, u2, u3, u4, u5, u6, u7, u8, u9, u10, u11, u12, u13, u14, u15, u16, u17, u18, u19, u20, u21, u22, u23, u24, u25, u26, u27, u28, u29, u30, u31, u32, u33, u34, u35, u36, u37, u38, u39, u40, u41, u42, u43, u44, u45, u46, u47, u48, u49, u50, u51, u52, u53, u54, u55, u56, u57, u58, u59, u60, u61, u62, u63, u64, u65, u66, u67, u68, u69, u70, u71, u72, u73, u74, u75, u76, u77, u78, u79, u80, u81, u82, u83, u84, u85, u86, u87, u88, u89, u90, u91, u92, u93, u94, u95, u96, u97, u98, u99, u100, u101, u102, u103, u104, u105, u106, u107, u108, u109, u110, u111, u112, u113, u114, u115, u116, u117, u118, u119, u120, u121, u122, u123, u124, u125, u126, u127, u128, u129, u130, u131, u132, u133, u134, u135, u136, u137, u138, u139, u140, u141, u142, u143, u144, u145, u146, u147, u148, u149, u150, u151, u152, u153, u154, u155, u156, u157, u158, u159, u160, u161, u162, u163, u164, u165, u166, u167, u168, u169, u170, u171, u172, u173, u174, u175, u176, u177, u178, u179, u180, u181, u182, u183, u184, u185, u186, u187, u188, u189, u190, u191, u192, u193, u194, u195, u196, u197, u198, u199, u200, u201, u202, u203, u204, u205, u206, u207, u208, u209, u210, u211, u212, u213, u214, u215, u216, u217, u218, u219, u220, u221, u222, u223, u224, u225, u226, u227], defers := [] } : Act).tmps.getD n undef) := rfl
set_option maxHeartbeats 40000000 in
theorem rRight (q : Rq) (pv : Value) (w : World) (hP : Ints w pv q.parts) (hs : smallQ q) : Calls Try.prog 25 #[rqV q pv] w (Ret (.bool (decide (rightQ q))) w) := by
  obtain ⟨sbucket, sobject, sversion, spre, sdelim, sbody⟩ := hs
  have hF := Lib.hid (fun w => rFields q.kind w)
  have hT := Lib.hid (fun w => rTagRight q.re q.im w)
  have hgu := tag_eqGuard .neq
  have hne := tag_neq q.re q.im 0 0
  have hgu2 := cond_eqGuard .eql
  have hceq := cond_eql q.ck q.re q.im 0 0 0
  unfold tagV at hT
  obtain ⟨r, hr⟩ : ∃ r, decide (rightQ q) = r := ⟨_, rfl⟩
  rw [hr]
  have hno : Hid (¬ fitsQ q → r = false) := Lib.hid (fun h => by rw [← hr]; exact decide_eq_false (fun e : rightQ q => h e.1))
  have hand : Hid (fitsQ q → decide (onlyQ q (lets q.kind)) = r) := Lib.hid (fun h => by rw [← hr]; exact decide_eq_decide.2 ⟨fun g => ⟨h, g⟩, fun g => g.2⟩)
  clear hr
  have hlen : Hid ((lets q.kind).length ≤ 100) := Lib.hid (lets_all (Q := fun l => l.length ≤ 100) (by decide) q.kind)
  have hSb := Lib.hid (fun w => rShort q.bucket sbucket w)
  have hSo := Lib.hid (fun w => rShort q.object sobject w)
  have hSv := Lib.hid (fun w => rShort q.version sversion w)
  have hSp := Lib.hid (fun w => rShort q.pre spre w)
  have hSd := Lib.hid (fun w => rShort q.delim sdelim w)
  have hx := Lib.hid hP
  obtain ⟨pa, pc, rfl, hlc, hcm, hcell⟩ := has1 hP
  unfold maxLen at hcm
  replace hcell := Lib.hid (fun k (hk : k < q.parts.length) => hcell k (by rw [List.length_map]; exact hk) hk)
  simp only [List.getElem_map] at hcell
  have hY : Hid (∀ w', BxOf (rqC q (.slice pa q.parts.length pc)) w w' → w'.cell? ⟨w.heap.size, 0, none⟩ = some (.int .i64 q.kind) ∧ w'.cell? ⟨w.heap.size, 1, none⟩ = some (.int .i64 q.session) ∧ w'.cell? ⟨w.heap.size, 2, none⟩ = some (.string ⟨q.bucket.toArray⟩) ∧ w'.cell? ⟨w.heap.size, 3, none⟩ = some (.string ⟨q.object.toArray⟩) ∧ w'.cell? ⟨w.heap.size, 4, none⟩ = some (.string ⟨q.version.toArray⟩) ∧ w'.cell? ⟨w.heap.size, 5, none⟩ = some (.string ⟨q.pre.toArray⟩) ∧ w'.cell? ⟨w.heap.size, 6, none⟩ = some (.string ⟨q.delim.toArray⟩) ∧ w'.cell? ⟨w.heap.size, 7, none⟩ = some (.string ⟨q.body.toArray⟩) ∧ w'.cell? ⟨w.heap.size, 8, none⟩ = some (.int .i64 q.ck) ∧ w'.cell? ⟨w.heap.size, 9, none⟩ = some (.int .i64 q.re) ∧ w'.cell? ⟨w.heap.size, 10, none⟩ = some (.int .i64 q.im) ∧ w'.cell? ⟨w.heap.size, 11, none⟩ = some (.int .i64 q.id) ∧ w'.cell? ⟨w.heap.size, 12, none⟩ = some (.int .i64 q.n) ∧ w'.cell? ⟨w.heap.size, 13, none⟩ = some (.slice pa q.parts.length pc)) := Lib.hid (fun w' h => cells14 h.1)
  clear hP hx
  obtain ⟨C, hC⟩ : ∃ C, rqC q (.slice pa q.parts.length pc) = C := ⟨_, rfl⟩
  have hst : Hid (∀ t w', Upd Non (w.alloc (.cells (rqC q (.slice pa q.parts.length pc)) t)) w' → BxOf C w w') := Lib.hid (fun t w' hu => by rw [← hC]; exact BxOf.start hu)
  rw [hC] at hY
  obtain ⟨kind, session, bucket, object, version, pre, delim, body, ck, re, im, id, n, parts⟩ := q
  unfold rqV
  unfold rqC at hst ⊢
  dsimp only at *
  unfold maxLen at sbody
  generalize lets kind = l at *
  have hLet : Hid (∀ (c : UInt8) w, Calls Try.prog 68 #[.string ⟨l.toArray⟩, .int .u8 (c.toNat : Int)] w (Ret (.bool (decide (c ∈ l))) w)) := Lib.hid (fun c w => rLetter l c hlen.out w)
  clear hC
  go_enter Try.func25, Try.ntmps25
  go_wp2_with fail
  refine (hF.out _).mono ?_
  rintro en w1 ⟨rfl, hu⟩
  have hA := hst.out _ _ hu
  clear hu hF hst
  obtain ⟨y0, y1, y2, y3, y4, y5, y6, y7, y8, y9, y10, y11, y12, y13⟩ := hY.out _ hA
  go_upto_region 2 with fail
  refine wp_region_lit ?_
  try dsimp only [List.append]
  refine wpList_cut 4 (fun a' w' => ∃ (u : Nat → Value) (z : Bool), a' = FR u ∧ u 1 = .pointer (some ⟨w.heap.size, 0, none⟩) ∧ u 3 = .string ⟨l.toArray⟩ ∧ u 11 = .bool z ∧ z = decide (kind < 1) ∧ BxOf C w w') ?_ ?_
  · skip
    simp only [List.take_succ_cons, List.take_zero]
    go_wp2_with fail
    exact ⟨_, _, FR_of _ _ _ _ _ _ _ _ _ _ _ _ _ _ _ _ _ _ _ _ _ _ _ _ _ _ _ _ _ _ _ _ _ _ _ _ _ _ _ _ _ _ _ _ _ _ _ _ _ _ _ _ _ _ _ _ _ _ _ _ _ _ _ _ _ _ _ _ _ _ _ _ _ _ _ _ _ _ _ _ _ _ _ _ _ _ _ _ _ _ _ _ _ _ _ _ _ _ _ _ _ _ _ _ _ _ _ _ _ _ _ _ _ _ _ _ _ _ _ _ _ _ _ _ _ _ _ _ _ _ _ _ _ _ _ _ _ _ _ _ _ _ _ _ _ _ _ _ _ _ _ _ _ _ _ _ _ _ _ _ _ _ _ _ _ _ _ _ _ _ _ _ _ _ _ _ _ _ _ _ _ _ _ _ _ _ _ _ _ _ _ _ _ _ _ _ _ _ _ _ _ _ _ _ _ _ _ _ _ _ _ _ _ _ _ _ _ _ _ _ _ _ _ _ _ _ _ _, rfl, rfl, rfl, rfl, hA⟩
  · skip
    clear hA y0 y1 y2 y3 y4 y5 y6 y7 y8 y9 y10 y11 y12 y13
    rintro _ w2 ⟨u, x, rfl, h1, h3, hx, hE1, hA⟩
    obtain ⟨y0, y1, y2, y3, y4, y5, y6, y7, y8, y9, y10, y11, y12, y13⟩ := hY.out _ hA
    unfold FR
    rw [h1, h3, hx]
    clear h1 h3 hx
    simp only [List.drop_succ_cons, List.drop_zero]
    replace hE1 := Lib.hid hE1
    refine wpList_cut 5 (fun a' w' => ∃ (u : Nat → Value) (z : Bool), a' = FR u ∧ u 1 = .pointer (some ⟨w.heap.size, 0, none⟩) ∧ u 3 = .string ⟨l.toArray⟩ ∧ u 16 = .bool z ∧ z = (x || decide (23 < kind)) ∧ BxOf C w w') ?_ ?_
    · skip
      simp only [List.take_succ_cons, List.take_zero]
      cases x with
      | true =>
        go_wp2_with fail
        exact ⟨_, _, FR_of _ _ _ _ _ _ _ _ _ _ _ _ _ _ _ _ _ _ _ _ _ _ _ _ _ _ _ _ _ _ _ _ _ _ _ _ _ _ _ _ _ _ _ _ _ _ _ _ _ _ _ _ _ _ _ _ _ _ _ _ _ _ _ _ _ _ _ _ _ _ _ _ _ _ _ _ _ _ _ _ _ _ _ _ _ _ _ _ _ _ _ _ _ _ _ _ _ _ _ _ _ _ _ _ _ _ _ _ _ _ _ _ _ _ _ _ _ _ _ _ _ _ _ _ _ _ _ _ _ _ _ _ _ _ _ _ _ _ _ _ _ _ _ _ _ _ _ _ _ _ _ _ _ _ _ _ _ _ _ _ _ _ _ _ _ _ _ _ _ _ _ _ _ _ _ _ _ _ _ _ _ _ _ _ _ _ _ _ _ _ _ _ _ _ _ _ _ _ _ _ _ _ _ _ _ _ _ _ _ _ _ _ _ _ _ _ _ _ _ _ _ _ _ _ _ _ _ _, rfl, rfl, rfl, rfl, hA⟩
      | false =>
        go_wp2_with fail
        exact ⟨_, _, FR_of _ _ _ _ _ _ _ _ _ _ _ _ _ _ _ _ _ _ _ _ _ _ _ _ _ _ _ _ _ _ _ _ _ _ _ _ _ _ _ _ _ _ _ _ _ _ _ _ _ _ _ _ _ _ _ _ _ _ _ _ _ _ _ _ _ _ _ _ _ _ _ _ _ _ _ _ _ _ _ _ _ _ _ _ _ _ _ _ _ _ _ _ _ _ _ _ _ _ _ _ _ _ _ _ _ _ _ _ _ _ _ _ _ _ _ _ _ _ _ _ _ _ _ _ _ _ _ _ _ _ _ _ _ _ _ _ _ _ _ _ _ _ _ _ _ _ _ _ _ _ _ _ _ _ _ _ _ _ _ _ _ _ _ _ _ _ _ _ _ _ _ _ _ _ _ _ _ _ _ _ _ _ _ _ _ _ _ _ _ _ _ _ _ _ _ _ _ _ _ _ _ _ _ _ _ _ _ _ _ _ _ _ _ _ _ _ _ _ _ _ _ _ _ _ _ _ _ _, rfl, rfl, rfl, rfl, hA⟩
    · skip
      clear hA y0 y1 y2 y3 y4 y5 y6 y7 y8 y9 y10 y11 y12 y13
      rintro _ w2 ⟨u, x, rfl, h1, h3, hx, hE2, hA⟩
      obtain ⟨y0, y1, y2, y3, y4, y5, y6, y7, y8, y9, y10, y11, y12, y13⟩ := hY.out _ hA
      unfold FR
      rw [h1, h3, hx]
      clear h1 h3 hx
      simp only [List.drop_succ_cons, List.drop_zero]
      replace hE2 := Lib.hid hE2
      refine wpList_cut 5 (fun a' w' => ∃ (u : Nat → Value) (z : Bool), a' = FR u ∧ u 1 = .pointer (some ⟨w.heap.size, 0, none⟩) ∧ u 3 = .string ⟨l.toArray⟩ ∧ u 21 = .bool z ∧ z = (x || decide (session < 0)) ∧ BxOf C w w') ?_ ?_
      · skip
        simp only [List.take_succ_cons, List.take_zero]
        cases x with
        | true =>
          go_wp2_with fail
          exact ⟨_, _, FR_of _ _ _ _ _ _ _ _ _ _ _ _ _ _ _ _ _ _ _ _ _ _ _ _ _ _ _ _ _ _ _ _ _ _ _ _ _ _ _ _ _ _ _ _ _ _ _ _ _ _ _ _ _ _ _ _ _ _ _ _ _ _ _ _ _ _ _ _ _ _ _ _ _ _ _ _ _ _ _ _ _ _ _ _ _ _ _ _ _ _ _ _ _ _ _ _ _ _ _ _ _ _ _ _ _ _ _ _ _ _ _ _ _ _ _ _ _ _ _ _ _ _ _ _ _ _ _ _ _ _ _ _ _ _ _ _ _ _ _ _ _ _ _ _ _ _ _ _ _ _ _ _ _ _ _ _ _ _ _ _ _ _ _ _ _ _ _ _ _ _ _ _ _ _ _ _ _ _ _ _ _ _ _ _ _ _ _ _ _ _ _ _ _ _ _ _ _ _ _ _ _ _ _ _ _ _ _ _ _ _ _ _ _ _ _ _ _ _ _ _ _ _ _ _ _ _ _ _, rfl, rfl, rfl, rfl, hA⟩
        | false =>
          go_wp2_with fail
          exact ⟨_, _, FR_of _ _ _ _ _ _ _ _ _ _ _ _ _ _ _ _ _ _ _ _ _ _ _ _ _ _ _ _ _ _ _ _ _ _ _ _ _ _ _ _ _ _ _ _ _ _ _ _ _ _ _ _ _ _ _ _ _ _ _ _ _ _ _ _ _ _ _ _ _ _ _ _ _ _ _ _ _ _ _ _ _ _ _ _ _ _ _ _ _ _ _ _ _ _ _ _ _ _ _ _ _ _ _ _ _ _ _ _ _ _ _ _ _ _ _ _ _ _ _ _ _ _ _ _ _ _ _ _ _ _ _ _ _ _ _ _ _ _ _ _ _ _ _ _ _ _ _ _ _ _ _ _ _ _ _ _ _ _ _ _ _ _ _ _ _ _ _ _ _ _ _ _ _ _ _ _ _ _ _ _ _ _ _ _ _ _ _ _ _ _ _ _ _ _ _ _ _ _ _ _ _ _ _ _ _ _ _ _ _ _ _ _ _ _ _ _ _ _ _ _ _ _ _ _ _ _ _ _, rfl, rfl, rfl, rfl, hA⟩
      · skip
        clear hA y0 y1 y2 y3 y4 y5 y6 y7 y8 y9 y10 y11 y12 y13
        rintro _ w2 ⟨u, x, rfl, h1, h3, hx, hE3, hA⟩
        obtain ⟨y0, y1, y2, y3, y4, y5, y6, y7, y8, y9, y10, y11, y12, y13⟩ := hY.out _ hA
        unfold FR
        rw [h1, h3, hx]
        clear h1 h3 hx
        simp only [List.drop_succ_cons, List.drop_zero]
        replace hE3 := Lib.hid hE3
        refine wpList_cut 5 (fun a' w' => ∃ (u : Nat → Value) (z : Bool), a' = FR u ∧ u 1 = .pointer (some ⟨w.heap.size, 0, none⟩) ∧ u 3 = .string ⟨l.toArray⟩ ∧ u 26 = .bool z ∧ z = (x || decide (255 < session)) ∧ BxOf C w w') ?_ ?_
        · skip
          simp only [List.take_succ_cons, List.take_zero]
          cases x with
          | true =>
            go_wp2_with fail
            exact ⟨_, _, FR_of _ _ _ _ _ _ _ _ _ _ _ _ _ _ _ _ _ _ _ _ _ _ _ _ _ _ _ _ _ _ _ _ _ _ _ _ _ _ _ _ _ _ _ _ _ _ _ _ _ _ _ _ _ _ _ _ _ _ _ _ _ _ _ _ _ _ _ _ _ _ _ _ _ _ _ _ _ _ _ _ _ _ _ _ _ _ _ _ _ _ _ _ _ _ _ _ _ _ _ _ _ _ _ _ _ _ _ _ _ _ _ _ _ _ _ _ _ _ _ _ _ _ _ _ _ _ _ _ _ _ _ _ _ _ _ _ _ _ _ _ _ _ _ _ _ _ _ _ _ _ _ _ _ _ _ _ _ _ _ _ _ _ _ _ _ _ _ _ _ _ _ _ _ _ _ _ _ _ _ _ _ _ _ _ _ _ _ _ _ _ _ _ _ _ _ _ _ _ _ _ _ _ _ _ _ _ _ _ _ _ _ _ _ _ _ _ _ _ _ _ _ _ _ _ _ _ _ _, rfl, rfl, rfl, rfl, hA⟩
          | false =>
            go_wp2_with fail
            exact ⟨_, _, FR_of _ _ _ _ _ _ _ _ _ _ _ _ _ _ _ _ _ _ _ _ _ _ _ _ _ _ _ _ _ _ _ _ _ _ _ _ _ _ _ _ _ _ _ _ _ _ _ _ _ _ _ _ _ _ _ _ _ _ _ _ _ _ _ _ _ _ _ _ _ _ _ _ _ _ _ _ _ _ _ _ _ _ _ _ _ _ _ _ _ _ _ _ _ _ _ _ _ _ _ _ _ _ _ _ _ _ _ _ _ _ _ _ _ _ _ _ _ _ _ _ _ _ _ _ _ _ _ _ _ _ _ _ _ _ _ _ _ _ _ _ _ _ _ _ _ _ _ _ _ _ _ _ _ _ _ _ _ _ _ _ _ _ _ _ _ _ _ _ _ _ _ _ _ _ _ _ _ _ _ _ _ _ _ _ _ _ _ _ _ _ _ _ _ _ _ _ _ _ _ _ _ _ _ _ _ _ _ _ _ _ _ _ _ _ _ _ _ _ _ _ _ _ _ _ _ _ _ _, rfl, rfl, rfl, rfl, hA⟩
        · skip
          clear hA y0 y1 y2 y3 y4 y5 y6 y7 y8 y9 y10 y11 y12 y13
          rintro _ w2 ⟨u, x, rfl, h1, h3, hx, hE4, hA⟩
          obtain ⟨y0, y1, y2, y3, y4, y5, y6, y7, y8, y9, y10, y11, y12, y13⟩ := hY.out _ hA
          unfold FR
          rw [h1, h3, hx]
          clear h1 h3 hx
          simp only [List.drop_succ_cons, List.drop_zero]
          replace hE4 := Lib.hid hE4
          refine wpList_cut 5 (fun a' w' => ∃ (u : Nat → Value) (z : Bool), a' = FR u ∧ u 1 = .pointer (some ⟨w.heap.size, 0, none⟩) ∧ u 3 = .string ⟨l.toArray⟩ ∧ u 31 = .bool z ∧ z = (x || decide (n < 0)) ∧ BxOf C w w') ?_ ?_
          · skip
            simp only [List.take_succ_cons, List.take_zero]
            cases x with
            | true =>
              go_wp2_with fail
              exact ⟨_, _, FR_of _ _ _ _ _ _ _ _ _ _ _ _ _ _ _ _ _ _ _ _ _ _ _ _ _ _ _ _ _ _ _ _ _ _ _ _ _ _ _ _ _ _ _ _ _ _ _ _ _ _ _ _ _ _ _ _ _ _ _ _ _ _ _ _ _ _ _ _ _ _ _ _ _ _ _ _ _ _ _ _ _ _ _ _ _ _ _ _ _ _ _ _ _ _ _ _ _ _ _ _ _ _ _ _ _ _ _ _ _ _ _ _ _ _ _ _ _ _ _ _ _ _ _ _ _ _ _ _ _ _ _ _ _ _ _ _ _ _ _ _ _ _ _ _ _ _ _ _ _ _ _ _ _ _ _ _ _ _ _ _ _ _ _ _ _ _ _ _ _ _ _ _ _ _ _ _ _ _ _ _ _ _ _ _ _ _ _ _ _ _ _ _ _ _ _ _ _ _ _ _ _ _ _ _ _ _ _ _ _ _ _ _ _ _ _ _ _ _ _ _ _ _ _ _ _ _ _ _, rfl, rfl, rfl, rfl, hA⟩
            | false =>
              go_wp2_with fail
              exact ⟨_, _, FR_of _ _ _ _ _ _ _ _ _ _ _ _ _ _ _ _ _ _ _ _ _ _ _ _ _ _ _ _ _ _ _ _ _ _ _ _ _ _ _ _ _ _ _ _ _ _ _ _ _ _ _ _ _ _ _ _ _ _ _ _ _ _ _ _ _ _ _ _ _ _ _ _ _ _ _ _ _ _ _ _ _ _ _ _ _ _ _ _ _ _ _ _ _ _ _ _ _ _ _ _ _ _ _ _ _ _ _ _ _ _ _ _ _ _ _ _ _ _ _ _ _ _ _ _ _ _ _ _ _ _ _ _ _ _ _ _ _ _ _ _ _ _ _ _ _ _ _ _ _ _ _ _ _ _ _ _ _ _ _ _ _ _ _ _ _ _ _ _ _ _ _ _ _ _ _ _ _ _ _ _ _ _ _ _ _ _ _ _ _ _ _ _ _ _ _ _ _ _ _ _ _ _ _ _ _ _ _ _ _ _ _ _ _ _ _ _ _ _ _ _ _ _ _ _ _ _ _ _, rfl, rfl, rfl, rfl, hA⟩
          · skip
            clear hA y0 y1 y2 y3 y4 y5 y6 y7 y8 y9 y10 y11 y12 y13
            rintro _ w2 ⟨u, x, rfl, h1, h3, hx, hE5, hA⟩
            obtain ⟨y0, y1, y2, y3, y4, y5, y6, y7, y8, y9, y10, y11, y12, y13⟩ := hY.out _ hA
            unfold FR
            rw [h1, h3, hx]
            clear h1 h3 hx
            simp only [List.drop_succ_cons, List.drop_zero]
            replace hE5 := Lib.hid hE5
            refine wpList_cut 5 (fun a' w' => ∃ (u : Nat → Value) (z : Bool), a' = FR u ∧ u 1 = .pointer (some ⟨w.heap.size, 0, none⟩) ∧ u 3 = .string ⟨l.toArray⟩ ∧ u 36 = .bool z ∧ z = (x || decide (65535 < n)) ∧ BxOf C w w') ?_ ?_
            · skip
              simp only [List.take_succ_cons, List.take_zero]
              cases x with
              | true =>
                go_wp2_with fail
                exact ⟨_, _, FR_of _ _ _ _ _ _ _ _ _ _ _ _ _ _ _ _ _ _ _ _ _ _ _ _ _ _ _ _ _ _ _ _ _ _ _ _ _ _ _ _ _ _ _ _ _ _ _ _ _ _ _ _ _ _ _ _ _ _ _ _ _ _ _ _ _ _ _ _ _ _ _ _ _ _ _ _ _ _ _ _ _ _ _ _ _ _ _ _ _ _ _ _ _ _ _ _ _ _ _ _ _ _ _ _ _ _ _ _ _ _ _ _ _ _ _ _ _ _ _ _ _ _ _ _ _ _ _ _ _ _ _ _ _ _ _ _ _ _ _ _ _ _ _ _ _ _ _ _ _ _ _ _ _ _ _ _ _ _ _ _ _ _ _ _ _ _ _ _ _ _ _ _ _ _ _ _ _ _ _ _ _ _ _ _ _ _ _ _ _ _ _ _ _ _ _ _ _ _ _ _ _ _ _ _ _ _ _ _ _ _ _ _ _ _ _ _ _ _ _ _ _ _ _ _ _ _ _ _, rfl, rfl, rfl, rfl, hA⟩
              | false =>
                go_wp2_with fail
                exact ⟨_, _, FR_of _ _ _ _ _ _ _ _ _ _ _ _ _ _ _ _ _ _ _ _ _ _ _ _ _ _ _ _ _ _ _ _ _ _ _ _ _ _ _ _ _ _ _ _ _ _ _ _ _ _ _ _ _ _ _ _ _ _ _ _ _ _ _ _ _ _ _ _ _ _ _ _ _ _ _ _ _ _ _ _ _ _ _ _ _ _ _ _ _ _ _ _ _ _ _ _ _ _ _ _ _ _ _ _ _ _ _ _ _ _ _ _ _ _ _ _ _ _ _ _ _ _ _ _ _ _ _ _ _ _ _ _ _ _ _ _ _ _ _ _ _ _ _ _ _ _ _ _ _ _ _ _ _ _ _ _ _ _ _ _ _ _ _ _ _ _ _ _ _ _ _ _ _ _ _ _ _ _ _ _ _ _ _ _ _ _ _ _ _ _ _ _ _ _ _ _ _ _ _ _ _ _ _ _ _ _ _ _ _ _ _ _ _ _ _ _ _ _ _ _ _ _ _ _ _ _ _ _, rfl, rfl, rfl, rfl, hA⟩
            · skip
              clear hA y0 y1 y2 y3 y4 y5 y6 y7 y8 y9 y10 y11 y12 y13
              rintro _ w2 ⟨u, x, rfl, h1, h3, hx, hE6, hA⟩
              obtain ⟨y0, y1, y2, y3, y4, y5, y6, y7, y8, y9, y10, y11, y12, y13⟩ := hY.out _ hA
              unfold FR
              rw [h1, h3, hx]
              clear h1 h3 hx
              simp only [List.drop_succ_cons, List.drop_zero]
              replace hE6 := Lib.hid hE6
              refine wpList_cut 6 (fun a' w' => ∃ (u : Nat → Value) (z : Bool), a' = FR u ∧ u 1 = .pointer (some ⟨w.heap.size, 0, none⟩) ∧ u 3 = .string ⟨l.toArray⟩ ∧ u 42 = .bool z ∧ z = (x || decide (ck < 0)) ∧ BxOf C w w') ?_ ?_
              · skip
                simp only [List.take_succ_cons, List.take_zero]
                cases x with
                | true =>
                  go_wp2_with fail
                  exact ⟨_, _, FR_of _ _ _ _ _ _ _ _ _ _ _ _ _ _ _ _ _ _ _ _ _ _ _ _ _ _ _ _ _ _ _ _ _ _ _ _ _ _ _ _ _ _ _ _ _ _ _ _ _ _ _ _ _ _ _ _ _ _ _ _ _ _ _ _ _ _ _ _ _ _ _ _ _ _ _ _ _ _ _ _ _ _ _ _ _ _ _ _ _ _ _ _ _ _ _ _ _ _ _ _ _ _ _ _ _ _ _ _ _ _ _ _ _ _ _ _ _ _ _ _ _ _ _ _ _ _ _ _ _ _ _ _ _ _ _ _ _ _ _ _ _ _ _ _ _ _ _ _ _ _ _ _ _ _ _ _ _ _ _ _ _ _ _ _ _ _ _ _ _ _ _ _ _ _ _ _ _ _ _ _ _ _ _ _ _ _ _ _ _ _ _ _ _ _ _ _ _ _ _ _ _ _ _ _ _ _ _ _ _ _ _ _ _ _ _ _ _ _ _ _ _ _ _ _ _ _ _ _, rfl, rfl, rfl, rfl, hA⟩
                | false =>
                  go_wp2_with fail
                  exact ⟨_, _, FR_of _ _ _ _ _ _ _ _ _ _ _ _ _ _ _ _ _ _ _ _ _ _ _ _ _ _ _ _ _ _ _ _ _ _ _ _ _ _ _ _ _ _ _ _ _ _ _ _ _ _ _ _ _ _ _ _ _ _ _ _ _ _ _ _ _ _ _ _ _ _ _ _ _ _ _ _ _ _ _ _ _ _ _ _ _ _ _ _ _ _ _ _ _ _ _ _ _ _ _ _ _ _ _ _ _ _ _ _ _ _ _ _ _ _ _ _ _ _ _ _ _ _ _ _ _ _ _ _ _ _ _ _ _ _ _ _ _ _ _ _ _ _ _ _ _ _ _ _ _ _ _ _ _ _ _ _ _ _ _ _ _ _ _ _ _ _ _ _ _ _ _ _ _ _ _ _ _ _ _ _ _ _ _ _ _ _ _ _ _ _ _ _ _ _ _ _ _ _ _ _ _ _ _ _ _ _ _ _ _ _ _ _ _ _ _ _ _ _ _ _ _ _ _ _ _ _ _ _, rfl, rfl, rfl, rfl, hA⟩
              · skip
                clear hA y0 y1 y2 y3 y4 y5 y6 y7 y8 y9 y10 y11 y12 y13
                rintro _ w2 ⟨u, x, rfl, h1, h3, hx, hE7, hA⟩
                obtain ⟨y0, y1, y2, y3, y4, y5, y6, y7, y8, y9, y10, y11, y12, y13⟩ := hY.out _ hA
                unfold FR
                rw [h1, h3, hx]
                clear h1 h3 hx
                simp only [List.drop_succ_cons, List.drop_zero]
                replace hE7 := Lib.hid hE7
                refine wpList_cut 6 (fun a' w' => ∃ (u : Nat → Value) (z : Bool), a' = FR u ∧ u 1 = .pointer (some ⟨w.heap.size, 0, none⟩) ∧ u 3 = .string ⟨l.toArray⟩ ∧ u 48 = .bool z ∧ z = (x || decide (255 < ck)) ∧ BxOf C w w') ?_ ?_
                · skip
                  simp only [List.take_succ_cons, List.take_zero]
                  cases x with
                  | true =>
                    go_wp2_with fail
                    exact ⟨_, _, FR_of _ _ _ _ _ _ _ _ _ _ _ _ _ _ _ _ _ _ _ _ _ _ _ _ _ _ _ _ _ _ _ _ _ _ _ _ _ _ _ _ _ _ _ _ _ _ _ _ _ _ _ _ _ _ _ _ _ _ _ _ _ _ _ _ _ _ _ _ _ _ _ _ _ _ _ _ _ _ _ _ _ _ _ _ _ _ _ _ _ _ _ _ _ _ _ _ _ _ _ _ _ _ _ _ _ _ _ _ _ _ _ _ _ _ _ _ _ _ _ _ _ _ _ _ _ _ _ _ _ _ _ _ _ _ _ _ _ _ _ _ _ _ _ _ _ _ _ _ _ _ _ _ _ _ _ _ _ _ _ _ _ _ _ _ _ _ _ _ _ _ _ _ _ _ _ _ _ _ _ _ _ _ _ _ _ _ _ _ _ _ _ _ _ _ _ _ _ _ _ _ _ _ _ _ _ _ _ _ _ _ _ _ _ _ _ _ _ _ _ _ _ _ _ _ _ _ _ _, rfl, rfl, rfl, rfl, hA⟩
                  | false =>
                    go_wp2_with fail
                    exact ⟨_, _, FR_of _ _ _ _ _ _ _ _ _ _ _ _ _ _ _ _ _ _ _ _ _ _ _ _ _ _ _ _ _ _ _ _ _ _ _ _ _ _ _ _ _ _ _ _ _ _ _ _ _ _ _ _ _ _ _ _ _ _ _ _ _ _ _ _ _ _ _ _ _ _ _ _ _ _ _ _ _ _ _ _ _ _ _ _ _ _ _ _ _ _ _ _ _ _ _ _ _ _ _ _ _ _ _ _ _ _ _ _ _ _ _ _ _ _ _ _ _ _ _ _ _ _ _ _ _ _ _ _ _ _ _ _ _ _ _ _ _ _ _ _ _ _ _ _ _ _ _ _ _ _ _ _ _ _ _ _ _ _ _ _ _ _ _ _ _ _ _ _ _ _ _ _ _ _ _ _ _ _ _ _ _ _ _ _ _ _ _ _ _ _ _ _ _ _ _ _ _ _ _ _ _ _ _ _ _ _ _ _ _ _ _ _ _ _ _ _ _ _ _ _ _ _ _ _ _ _ _ _, rfl, rfl, rfl, rfl, hA⟩
                · skip
                  clear hA y0 y1 y2 y3 y4 y5 y6 y7 y8 y9 y10 y11 y12 y13
                  rintro _ w2 ⟨u, x, rfl, h1, h3, hx, hE8, hA⟩
                  obtain ⟨y0, y1, y2, y3, y4, y5, y6, y7, y8, y9, y10, y11, y12, y13⟩ := hY.out _ hA
                  unfold FR
                  rw [h1, h3, hx]
                  clear h1 h3 hx
                  simp only [List.drop_succ_cons, List.drop_zero]
                  replace hE8 := Lib.hid hE8
                  refine wpList_cut 7 (fun a' w' => ∃ (u : Nat → Value) (z : Bool), a' = FR u ∧ u 1 = .pointer (some ⟨w.heap.size, 0, none⟩) ∧ u 3 = .string ⟨l.toArray⟩ ∧ u 55 = .bool z ∧ z = (x || (!decide (tagOk re im))) ∧ BxOf C w w') ?_ ?_
                  · skip
                    simp only [List.take_succ_cons, List.take_zero]
                    cases x with
                    | true =>
                      go_wp2_with fail
                      exact ⟨_, _, FR_of _ _ _ _ _ _ _ _ _ _ _ _ _ _ _ _ _ _ _ _ _ _ _ _ _ _ _ _ _ _ _ _ _ _ _ _ _ _ _ _ _ _ _ _ _ _ _ _ _ _ _ _ _ _ _ _ _ _ _ _ _ _ _ _ _ _ _ _ _ _ _ _ _ _ _ _ _ _ _ _ _ _ _ _ _ _ _ _ _ _ _ _ _ _ _ _ _ _ _ _ _ _ _ _ _ _ _ _ _ _ _ _ _ _ _ _ _ _ _ _ _ _ _ _ _ _ _ _ _ _ _ _ _ _ _ _ _ _ _ _ _ _ _ _ _ _ _ _ _ _ _ _ _ _ _ _ _ _ _ _ _ _ _ _ _ _ _ _ _ _ _ _ _ _ _ _ _ _ _ _ _ _ _ _ _ _ _ _ _ _ _ _ _ _ _ _ _ _ _ _ _ _ _ _ _ _ _ _ _ _ _ _ _ _ _ _ _ _ _ _ _ _ _ _ _ _ _ _, rfl, rfl, rfl, rfl, hA⟩
                    | false =>
                      go_wp2_with fail
                      refine (hT.out _).mono ?_
                      rintro en w3 ⟨rfl, hu3⟩
                      replace hA := hA.next hu3
                      clear hu3 y0 y1 y2 y3 y4 y5 y6 y7 y8 y9 y10 y11 y12 y13
                      obtain ⟨y0, y1, y2, y3, y4, y5, y6, y7, y8, y9, y10, y11, y12, y13⟩ := hY.out _ hA
                      go_wp2_with fail
                      exact ⟨_, _, FR_of _ _ _ _ _ _ _ _ _ _ _ _ _ _ _ _ _ _ _ _ _ _ _ _ _ _ _ _ _ _ _ _ _ _ _ _ _ _ _ _ _ _ _ _ _ _ _ _ _ _ _ _ _ _ _ _ _ _ _ _ _ _ _ _ _ _ _ _ _ _ _ _ _ _ _ _ _ _ _ _ _ _ _ _ _ _ _ _ _ _ _ _ _ _ _ _ _ _ _ _ _ _ _ _ _ _ _ _ _ _ _ _ _ _ _ _ _ _ _ _ _ _ _ _ _ _ _ _ _ _ _ _ _ _ _ _ _ _ _ _ _ _ _ _ _ _ _ _ _ _ _ _ _ _ _ _ _ _ _ _ _ _ _ _ _ _ _ _ _ _ _ _ _ _ _ _ _ _ _ _ _ _ _ _ _ _ _ _ _ _ _ _ _ _ _ _ _ _ _ _ _ _ _ _ _ _ _ _ _ _ _ _ _ _ _ _ _ _ _ _ _ _ _ _ _ _ _ _, rfl, rfl, rfl, rfl, hA⟩
                  · skip
                    clear hA y0 y1 y2 y3 y4 y5 y6 y7 y8 y9 y10 y11 y12 y13
                    rintro _ w2 ⟨u, x, rfl, h1, h3, hx, hE9, hA⟩
                    obtain ⟨y0, y1, y2, y3, y4, y5, y6, y7, y8, y9, y10, y11, y12, y13⟩ := hY.out _ hA
                    unfold FR
                    rw [h1, h3, hx]
                    clear h1 h3 hx
                    simp only [List.drop_succ_cons, List.drop_zero]
                    replace hE9 := Lib.hid hE9
                    refine wpList_cut 13 (fun a' w' => ∃ (u : Nat → Value) (z : Bool), a' = FR u ∧ u 1 = .pointer (some ⟨w.heap.size, 0, none⟩) ∧ u 3 = .string ⟨l.toArray⟩ ∧ u 68 = .bool z ∧ z = (x || (ck != 2 && (!decide (re = 0) || !decide (im = 0)))) ∧ BxOf C w w') ?_ ?_
                    · skip
                      simp only [List.take_succ_cons, List.take_zero]
                      cases x with
                      | true =>
                        go_wp2_with fail
                        exact ⟨_, _, FR_of _ _ _ _ _ _ _ _ _ _ _ _ _ _ _ _ _ _ _ _ _ _ _ _ _ _ _ _ _ _ _ _ _ _ _ _ _ _ _ _ _ _ _ _ _ _ _ _ _ _ _ _ _ _ _ _ _ _ _ _ _ _ _ _ _ _ _ _ _ _ _ _ _ _ _ _ _ _ _ _ _ _ _ _ _ _ _ _ _ _ _ _ _ _ _ _ _ _ _ _ _ _ _ _ _ _ _ _ _ _ _ _ _ _ _ _ _ _ _ _ _ _ _ _ _ _ _ _ _ _ _ _ _ _ _ _ _ _ _ _ _ _ _ _ _ _ _ _ _ _ _ _ _ _ _ _ _ _ _ _ _ _ _ _ _ _ _ _ _ _ _ _ _ _ _ _ _ _ _ _ _ _ _ _ _ _ _ _ _ _ _ _ _ _ _ _ _ _ _ _ _ _ _ _ _ _ _ _ _ _ _ _ _ _ _ _ _ _ _ _ _ _ _ _ _ _ _ _, rfl, rfl, rfl, rfl, hA⟩
                      | false =>
                        by_cases hk2 : ck = 2
                        · have b5 : (ck != 2) = false := by simp [hk2]
                          go_wp2_with fail
                          exact ⟨_, _, FR_of _ _ _ _ _ _ _ _ _ _ _ _ _ _ _ _ _ _ _ _ _ _ _ _ _ _ _ _ _ _ _ _ _ _ _ _ _ _ _ _ _ _ _ _ _ _ _ _ _ _ _ _ _ _ _ _ _ _ _ _ _ _ _ _ _ _ _ _ _ _ _ _ _ _ _ _ _ _ _ _ _ _ _ _ _ _ _ _ _ _ _ _ _ _ _ _ _ _ _ _ _ _ _ _ _ _ _ _ _ _ _ _ _ _ _ _ _ _ _ _ _ _ _ _ _ _ _ _ _ _ _ _ _ _ _ _ _ _ _ _ _ _ _ _ _ _ _ _ _ _ _ _ _ _ _ _ _ _ _ _ _ _ _ _ _ _ _ _ _ _ _ _ _ _ _ _ _ _ _ _ _ _ _ _ _ _ _ _ _ _ _ _ _ _ _ _ _ _ _ _ _ _ _ _ _ _ _ _ _ _ _ _ _ _ _ _ _ _ _ _ _ _ _ _ _ _ _ _, rfl, rfl, rfl, by rw [b5]; rfl, hA⟩
                        · have b5 : (ck != 2) = true := by simp [hk2]
                          go_wp2_with fail
                          exact ⟨_, _, FR_of _ _ _ _ _ _ _ _ _ _ _ _ _ _ _ _ _ _ _ _ _ _ _ _ _ _ _ _ _ _ _ _ _ _ _ _ _ _ _ _ _ _ _ _ _ _ _ _ _ _ _ _ _ _ _ _ _ _ _ _ _ _ _ _ _ _ _ _ _ _ _ _ _ _ _ _ _ _ _ _ _ _ _ _ _ _ _ _ _ _ _ _ _ _ _ _ _ _ _ _ _ _ _ _ _ _ _ _ _ _ _ _ _ _ _ _ _ _ _ _ _ _ _ _ _ _ _ _ _ _ _ _ _ _ _ _ _ _ _ _ _ _ _ _ _ _ _ _ _ _ _ _ _ _ _ _ _ _ _ _ _ _ _ _ _ _ _ _ _ _ _ _ _ _ _ _ _ _ _ _ _ _ _ _ _ _ _ _ _ _ _ _ _ _ _ _ _ _ _ _ _ _ _ _ _ _ _ _ _ _ _ _ _ _ _ _ _ _ _ _ _ _ _ _ _ _ _ _, rfl, rfl, rfl, by rw [b5]; rfl, hA⟩
                    · skip
                      clear hA y0 y1 y2 y3 y4 y5 y6 y7 y8 y9 y10 y11 y12 y13
                      rintro _ w2 ⟨u, x, rfl, h1, h3, hx, hE10, hA⟩
                      obtain ⟨y0, y1, y2, y3, y4, y5, y6, y7, y8, y9, y10, y11, y12, y13⟩ := hY.out _ hA
                      unfold FR
                      rw [h1, h3, hx]
                      clear h1 h3 hx
                      simp only [List.drop_succ_cons, List.drop_zero]
                      replace hE10 := Lib.hid hE10
                      refine wpList_cut 6 (fun a' w' => ∃ (u : Nat → Value) (z : Bool), a' = FR u ∧ u 1 = .pointer (some ⟨w.heap.size, 0, none⟩) ∧ u 3 = .string ⟨l.toArray⟩ ∧ u 74 = .bool z ∧ z = (x || decide ((255 : Int) < (parts.length : Int))) ∧ BxOf C w w') ?_ ?_
                      · skip
                        simp only [List.take_succ_cons, List.take_zero]
                        cases x with
                        | true =>
                          go_wp2_with fail
                          exact ⟨_, _, FR_of _ _ _ _ _ _ _ _ _ _ _ _ _ _ _ _ _ _ _ _ _ _ _ _ _ _ _ _ _ _ _ _ _ _ _ _ _ _ _ _ _ _ _ _ _ _ _ _ _ _ _ _ _ _ _ _ _ _ _ _ _ _ _ _ _ _ _ _ _ _ _ _ _ _ _ _ _ _ _ _ _ _ _ _ _ _ _ _ _ _ _ _ _ _ _ _ _ _ _ _ _ _ _ _ _ _ _ _ _ _ _ _ _ _ _ _ _ _ _ _ _ _ _ _ _ _ _ _ _ _ _ _ _ _ _ _ _ _ _ _ _ _ _ _ _ _ _ _ _ _ _ _ _ _ _ _ _ _ _ _ _ _ _ _ _ _ _ _ _ _ _ _ _ _ _ _ _ _ _ _ _ _ _ _ _ _ _ _ _ _ _ _ _ _ _ _ _ _ _ _ _ _ _ _ _ _ _ _ _ _ _ _ _ _ _ _ _ _ _ _ _ _ _ _ _ _ _ _, rfl, rfl, rfl, rfl, hA⟩
                        | false =>
                          go_wp2_with fail
                          exact ⟨_, _, FR_of _ _ _ _ _ _ _ _ _ _ _ _ _ _ _ _ _ _ _ _ _ _ _ _ _ _ _ _ _ _ _ _ _ _ _ _ _ _ _ _ _ _ _ _ _ _ _ _ _ _ _ _ _ _ _ _ _ _ _ _ _ _ _ _ _ _ _ _ _ _ _ _ _ _ _ _ _ _ _ _ _ _ _ _ _ _ _ _ _ _ _ _ _ _ _ _ _ _ _ _ _ _ _ _ _ _ _ _ _ _ _ _ _ _ _ _ _ _ _ _ _ _ _ _ _ _ _ _ _ _ _ _ _ _ _ _ _ _ _ _ _ _ _ _ _ _ _ _ _ _ _ _ _ _ _ _ _ _ _ _ _ _ _ _ _ _ _ _ _ _ _ _ _ _ _ _ _ _ _ _ _ _ _ _ _ _ _ _ _ _ _ _ _ _ _ _ _ _ _ _ _ _ _ _ _ _ _ _ _ _ _ _ _ _ _ _ _ _ _ _ _ _ _ _ _ _ _ _, rfl, rfl, rfl, rfl, hA⟩
                      · skip
                        clear hA y0 y1 y2 y3 y4 y5 y6 y7 y8 y9 y10 y11 y12 y13
                        rintro _ w2 ⟨u, x, rfl, h1, h3, hx, hE11, hA⟩
                        obtain ⟨y0, y1, y2, y3, y4, y5, y6, y7, y8, y9, y10, y11, y12, y13⟩ := hY.out _ hA
                        unfold FR
                        rw [h1, h3, hx]
                        clear h1 h3 hx
                        simp only [List.drop_succ_cons, List.drop_zero]
                        replace hE11 := Lib.hid hE11
                        refine wpList_cut 5 (fun a' w' => ∃ (u : Nat → Value) (z : Bool), a' = FR u ∧ u 1 = .pointer (some ⟨w.heap.size, 0, none⟩) ∧ u 3 = .string ⟨l.toArray⟩ ∧ u 79 = .bool z ∧ z = (x || decide ((65535 : Int) < (body.length : Int))) ∧ BxOf C w w') ?_ ?_
                        · skip
                          simp only [List.take_succ_cons, List.take_zero]
                          cases x with
                          | true =>
                            go_wp2_with fail
                            exact ⟨_, _, FR_of _ _ _ _ _ _ _ _ _ _ _ _ _ _ _ _ _ _ _ _ _ _ _ _ _ _ _ _ _ _ _ _ _ _ _ _ _ _ _ _ _ _ _ _ _ _ _ _ _ _ _ _ _ _ _ _ _ _ _ _ _ _ _ _ _ _ _ _ _ _ _ _ _ _ _ _ _ _ _ _ _ _ _ _ _ _ _ _ _ _ _ _ _ _ _ _ _ _ _ _ _ _ _ _ _ _ _ _ _ _ _ _ _ _ _ _ _ _ _ _ _ _ _ _ _ _ _ _ _ _ _ _ _ _ _ _ _ _ _ _ _ _ _ _ _ _ _ _ _ _ _ _ _ _ _ _ _ _ _ _ _ _ _ _ _ _ _ _ _ _ _ _ _ _ _ _ _ _ _ _ _ _ _ _ _ _ _ _ _ _ _ _ _ _ _ _ _ _ _ _ _ _ _ _ _ _ _ _ _ _ _ _ _ _ _ _ _ _ _ _ _ _ _ _ _ _ _ _, rfl, rfl, rfl, rfl, hA⟩
                          | false =>
                            go_wp2_with fail
                            exact ⟨_, _, FR_of _ _ _ _ _ _ _ _ _ _ _ _ _ _ _ _ _ _ _ _ _ _ _ _ _ _ _ _ _ _ _ _ _ _ _ _ _ _ _ _ _ _ _ _ _ _ _ _ _ _ _ _ _ _ _ _ _ _ _ _ _ _ _ _ _ _ _ _ _ _ _ _ _ _ _ _ _ _ _ _ _ _ _ _ _ _ _ _ _ _ _ _ _ _ _ _ _ _ _ _ _ _ _ _ _ _ _ _ _ _ _ _ _ _ _ _ _ _ _ _ _ _ _ _ _ _ _ _ _ _ _ _ _ _ _ _ _ _ _ _ _ _ _ _ _ _ _ _ _ _ _ _ _ _ _ _ _ _ _ _ _ _ _ _ _ _ _ _ _ _ _ _ _ _ _ _ _ _ _ _ _ _ _ _ _ _ _ _ _ _ _ _ _ _ _ _ _ _ _ _ _ _ _ _ _ _ _ _ _ _ _ _ _ _ _ _ _ _ _ _ _ _ _ _ _ _ _ _, rfl, rfl, rfl, rfl, hA⟩
                        · skip
                          clear hA y0 y1 y2 y3 y4 y5 y6 y7 y8 y9 y10 y11 y12 y13
                          rintro _ w2 ⟨u, x, rfl, h1, h3, hx, hE12, hA⟩
                          obtain ⟨y0, y1, y2, y3, y4, y5, y6, y7, y8, y9, y10, y11, y12, y13⟩ := hY.out _ hA
                          unfold FR
                          rw [h1, h3, hx]
                          clear h1 h3 hx
                          simp only [List.drop_succ_cons, List.drop_zero]
                          have hX : x = (((((((((((decide (kind < 1) || decide (23 < kind)) || decide (session < 0)) || decide (255 < session)) || decide (n < 0)) || decide (65535 < n)) || decide (ck < 0)) || decide (255 < ck)) || (!decide (tagOk re im))) || (ck != 2 && (!decide (re = 0) || !decide (im = 0)))) || decide ((255 : Int) < (parts.length : Int))) || decide ((65535 : Int) < (body.length : Int))) := by rw [hE12, hE11.out, hE10.out, hE9.out, hE8.out, hE7.out, hE6.out, hE5.out, hE4.out, hE3.out, hE2.out, hE1.out]
                          have hA2 := hA
                          clear hE12 hE1 hE2 hE3 hE4 hE5 hE6 hE7 hE8 hE9 hE10 hE11
                          have hc2 := cond2 kind session n ck re im parts.length body.length
                          rw [← hX] at hc2
                          clear hX
                          cases x with
                          | true =>
                            obtain rfl : r = false := hno.out (fun e => by
                              obtain ⟨e1, e2, e3, e4, e5, e6, e7, e8, -⟩ := e
                              have := hc2.2 ⟨e1, e2, e3, e4, e5, e6, e7, e8⟩
                              cases this)
                            go_wp2_with fail
                            go_ret
                            exact ⟨rfl, hA.upd⟩
                          | false =>
                            have hf2 := Lib.hid (hc2.1 rfl)
                            have hparts : parts.length ≤ 255 := hf2.out.2.2.2.2.2.2.1
                            clear hc2
                            go_upto_region 4 with fail
                            refine wp_region_lit ?_
                            try dsimp only [List.append]
                            refine wpList_cut 5 (fun a' w' => ∃ (u : Nat → Value) (z : Bool), a' = FR u ∧ u 1 = .pointer (some ⟨w.heap.size, 0, none⟩) ∧ u 3 = .string ⟨l.toArray⟩ ∧ u 84 = .bool z ∧ z = (!decide (bucket.length ≤ 255)) ∧ BxOf C w w') ?_ ?_
                            · skip
                              simp only [List.take_succ_cons, List.take_zero]
                              go_wp2_with fail
                              refine (hSb.out _).mono ?_
                              rintro en w3 ⟨rfl, hu3⟩
                              replace hA := hA.next hu3
                              clear hu3 y0 y1 y2 y3 y4 y5 y6 y7 y8 y9 y10 y11 y12 y13
                              obtain ⟨y0, y1, y2, y3, y4, y5, y6, y7, y8, y9, y10, y11, y12, y13⟩ := hY.out _ hA
                              go_wp2_with fail
                              exact ⟨_, _, FR_of _ _ _ _ _ _ _ _ _ _ _ _ _ _ _ _ _ _ _ _ _ _ _ _ _ _ _ _ _ _ _ _ _ _ _ _ _ _ _ _ _ _ _ _ _ _ _ _ _ _ _ _ _ _ _ _ _ _ _ _ _ _ _ _ _ _ _ _ _ _ _ _ _ _ _ _ _ _ _ _ _ _ _ _ _ _ _ _ _ _ _ _ _ _ _ _ _ _ _ _ _ _ _ _ _ _ _ _ _ _ _ _ _ _ _ _ _ _ _ _ _ _ _ _ _ _ _ _ _ _ _ _ _ _ _ _ _ _ _ _ _ _ _ _ _ _ _ _ _ _ _ _ _ _ _ _ _ _ _ _ _ _ _ _ _ _ _ _ _ _ _ _ _ _ _ _ _ _ _ _ _ _ _ _ _ _ _ _ _ _ _ _ _ _ _ _ _ _ _ _ _ _ _ _ _ _ _ _ _ _ _ _ _ _ _ _ _ _ _ _ _ _ _ _ _ _ _ _, rfl, rfl, rfl, rfl, hA⟩
                            · skip
                              clear hA y0 y1 y2 y3 y4 y5 y6 y7 y8 y9 y10 y11 y12 y13
                              rintro _ w2 ⟨u, x, rfl, h1, h3, hx, hE1, hA⟩
                              obtain ⟨y0, y1, y2, y3, y4, y5, y6, y7, y8, y9, y10, y11, y12, y13⟩ := hY.out _ hA
                              unfold FR
                              rw [h1, h3, hx]
                              clear h1 h3 hx
                              simp only [List.drop_succ_cons, List.drop_zero]
                              replace hE1 := Lib.hid hE1
                              refine wpList_cut 6 (fun a' w' => ∃ (u : Nat → Value) (z : Bool), a' = FR u ∧ u 1 = .pointer (some ⟨w.heap.size, 0, none⟩) ∧ u 3 = .string ⟨l.toArray⟩ ∧ u 90 = .bool z ∧ z = (x || (!decide (object.length ≤ 255))) ∧ BxOf C w w') ?_ ?_
                              · skip
                                simp only [List.take_succ_cons, List.take_zero]
                                cases x with
                                | true =>
                                  go_wp2_with fail
                                  exact ⟨_, _, FR_of _ _ _ _ _ _ _ _ _ _ _ _ _ _ _ _ _ _ _ _ _ _ _ _ _ _ _ _ _ _ _ _ _ _ _ _ _ _ _ _ _ _ _ _ _ _ _ _ _ _ _ _ _ _ _ _ _ _ _ _ _ _ _ _ _ _ _ _ _ _ _ _ _ _ _ _ _ _ _ _ _ _ _ _ _ _ _ _ _ _ _ _ _ _ _ _ _ _ _ _ _ _ _ _ _ _ _ _ _ _ _ _ _ _ _ _ _ _ _ _ _ _ _ _ _ _ _ _ _ _ _ _ _ _ _ _ _ _ _ _ _ _ _ _ _ _ _ _ _ _ _ _ _ _ _ _ _ _ _ _ _ _ _ _ _ _ _ _ _ _ _ _ _ _ _ _ _ _ _ _ _ _ _ _ _ _ _ _ _ _ _ _ _ _ _ _ _ _ _ _ _ _ _ _ _ _ _ _ _ _ _ _ _ _ _ _ _ _ _ _ _ _ _ _ _ _ _ _, rfl, rfl, rfl, rfl, hA⟩
                                | false =>
                                  go_wp2_with fail
                                  refine (hSo.out _).mono ?_
                                  rintro en w3 ⟨rfl, hu3⟩
                                  replace hA := hA.next hu3
                                  clear hu3 y0 y1 y2 y3 y4 y5 y6 y7 y8 y9 y10 y11 y12 y13
                                  obtain ⟨y0, y1, y2, y3, y4, y5, y6, y7, y8, y9, y10, y11, y12, y13⟩ := hY.out _ hA
                                  go_wp2_with fail
                                  exact ⟨_, _, FR_of _ _ _ _ _ _ _ _ _ _ _ _ _ _ _ _ _ _ _ _ _ _ _ _ _ _ _ _ _ _ _ _ _ _ _ _ _ _ _ _ _ _ _ _ _ _ _ _ _ _ _ _ _ _ _ _ _ _ _ _ _ _ _ _ _ _ _ _ _ _ _ _ _ _ _ _ _ _ _ _ _ _ _ _ _ _ _ _ _ _ _ _ _ _ _ _ _ _ _ _ _ _ _ _ _ _ _ _ _ _ _ _ _ _ _ _ _ _ _ _ _ _ _ _ _ _ _ _ _ _ _ _ _ _ _ _ _ _ _ _ _ _ _ _ _ _ _ _ _ _ _ _ _ _ _ _ _ _ _ _ _ _ _ _ _ _ _ _ _ _ _ _ _ _ _ _ _ _ _ _ _ _ _ _ _ _ _ _ _ _ _ _ _ _ _ _ _ _ _ _ _ _ _ _ _ _ _ _ _ _ _ _ _ _ _ _ _ _ _ _ _ _ _ _ _ _ _ _, rfl, rfl, rfl, rfl, hA⟩
                              · skip
                                clear hA y0 y1 y2 y3 y4 y5 y6 y7 y8 y9 y10 y11 y12 y13
                                rintro _ w2 ⟨u, x, rfl, h1, h3, hx, hE2, hA⟩
                                obtain ⟨y0, y1, y2, y3, y4, y5, y6, y7, y8, y9, y10, y11, y12, y13⟩ := hY.out _ hA
                                unfold FR
                                rw [h1, h3, hx]
                                clear h1 h3 hx
                                simp only [List.drop_succ_cons, List.drop_zero]
                                replace hE2 := Lib.hid hE2
                                refine wpList_cut 6 (fun a' w' => ∃ (u : Nat → Value) (z : Bool), a' = FR u ∧ u 1 = .pointer (some ⟨w.heap.size, 0, none⟩) ∧ u 3 = .string ⟨l.toArray⟩ ∧ u 96 = .bool z ∧ z = (x || (!decide (version.length ≤ 255))) ∧ BxOf C w w') ?_ ?_
                                · skip
                                  simp only [List.take_succ_cons, List.take_zero]
                                  cases x with
                                  | true =>
                                    go_wp2_with fail
                                    exact ⟨_, _, FR_of _ _ _ _ _ _ _ _ _ _ _ _ _ _ _ _ _ _ _ _ _ _ _ _ _ _ _ _ _ _ _ _ _ _ _ _ _ _ _ _ _ _ _ _ _ _ _ _ _ _ _ _ _ _ _ _ _ _ _ _ _ _ _ _ _ _ _ _ _ _ _ _ _ _ _ _ _ _ _ _ _ _ _ _ _ _ _ _ _ _ _ _ _ _ _ _ _ _ _ _ _ _ _ _ _ _ _ _ _ _ _ _ _ _ _ _ _ _ _ _ _ _ _ _ _ _ _ _ _ _ _ _ _ _ _ _ _ _ _ _ _ _ _ _ _ _ _ _ _ _ _ _ _ _ _ _ _ _ _ _ _ _ _ _ _ _ _ _ _ _ _ _ _ _ _ _ _ _ _ _ _ _ _ _ _ _ _ _ _ _ _ _ _ _ _ _ _ _ _ _ _ _ _ _ _ _ _ _ _ _ _ _ _ _ _ _ _ _ _ _ _ _ _ _ _ _ _ _, rfl, rfl, rfl, rfl, hA⟩
                                  | false =>
                                    go_wp2_with fail
                                    refine (hSv.out _).mono ?_
                                    rintro en w3 ⟨rfl, hu3⟩
                                    replace hA := hA.next hu3
                                    clear hu3 y0 y1 y2 y3 y4 y5 y6 y7 y8 y9 y10 y11 y12 y13
                                    obtain ⟨y0, y1, y2, y3, y4, y5, y6, y7, y8, y9, y10, y11, y12, y13⟩ := hY.out _ hA
                                    go_wp2_with fail
                                    exact ⟨_, _, FR_of _ _ _ _ _ _ _ _ _ _ _ _ _ _ _ _ _ _ _ _ _ _ _ _ _ _ _ _ _ _ _ _ _ _ _ _ _ _ _ _ _ _ _ _ _ _ _ _ _ _ _ _ _ _ _ _ _ _ _ _ _ _ _ _ _ _ _ _ _ _ _ _ _ _ _ _ _ _ _ _ _ _ _ _ _ _ _ _ _ _ _ _ _ _ _ _ _ _ _ _ _ _ _ _ _ _ _ _ _ _ _ _ _ _ _ _ _ _ _ _ _ _ _ _ _ _ _ _ _ _ _ _ _ _ _ _ _ _ _ _ _ _ _ _ _ _ _ _ _ _ _ _ _ _ _ _ _ _ _ _ _ _ _ _ _ _ _ _ _ _ _ _ _ _ _ _ _ _ _ _ _ _ _ _ _ _ _ _ _ _ _ _ _ _ _ _ _ _ _ _ _ _ _ _ _ _ _ _ _ _ _ _ _ _ _ _ _ _ _ _ _ _ _ _ _ _ _ _, rfl, rfl, rfl, rfl, hA⟩
                                · skip
                                  clear hA y0 y1 y2 y3 y4 y5 y6 y7 y8 y9 y10 y11 y12 y13
                                  rintro _ w2 ⟨u, x, rfl, h1, h3, hx, hE3, hA⟩
                                  obtain ⟨y0, y1, y2, y3, y4, y5, y6, y7, y8, y9, y10, y11, y12, y13⟩ := hY.out _ hA
                                  unfold FR
                                  rw [h1, h3, hx]
                                  clear h1 h3 hx
                                  simp only [List.drop_succ_cons, List.drop_zero]
                                  replace hE3 := Lib.hid hE3
                                  refine wpList_cut 6 (fun a' w' => ∃ (u : Nat → Value) (z : Bool), a' = FR u ∧ u 1 = .pointer (some ⟨w.heap.size, 0, none⟩) ∧ u 3 = .string ⟨l.toArray⟩ ∧ u 102 = .bool z ∧ z = (x || (!decide (pre.length ≤ 255))) ∧ BxOf C w w') ?_ ?_
                                  · skip
                                    simp only [List.take_succ_cons, List.take_zero]
                                    cases x with
                                    | true =>
                                      go_wp2_with fail
                                      exact ⟨_, _, FR_of _ _ _ _ _ _ _ _ _ _ _ _ _ _ _ _ _ _ _ _ _ _ _ _ _ _ _ _ _ _ _ _ _ _ _ _ _ _ _ _ _ _ _ _ _ _ _ _ _ _ _ _ _ _ _ _ _ _ _ _ _ _ _ _ _ _ _ _ _ _ _ _ _ _ _ _ _ _ _ _ _ _ _ _ _ _ _ _ _ _ _ _ _ _ _ _ _ _ _ _ _ _ _ _ _ _ _ _ _ _ _ _ _ _ _ _ _ _ _ _ _ _ _ _ _ _ _ _ _ _ _ _ _ _ _ _ _ _ _ _ _ _ _ _ _ _ _ _ _ _ _ _ _ _ _ _ _ _ _ _ _ _ _ _ _ _ _ _ _ _ _ _ _ _ _ _ _ _ _ _ _ _ _ _ _ _ _ _ _ _ _ _ _ _ _ _ _ _ _ _ _ _ _ _ _ _ _ _ _ _ _ _ _ _ _ _ _ _ _ _ _ _ _ _ _ _ _ _, rfl, rfl, rfl, rfl, hA⟩
                                    | false =>
                                      go_wp2_with fail
                                      refine (hSp.out _).mono ?_
                                      rintro en w3 ⟨rfl, hu3⟩
                                      replace hA := hA.next hu3
                                      clear hu3 y0 y1 y2 y3 y4 y5 y6 y7 y8 y9 y10 y11 y12 y13
                                      obtain ⟨y0, y1, y2, y3, y4, y5, y6, y7, y8, y9, y10, y11, y12, y13⟩ := hY.out _ hA
                                      go_wp2_with fail
                                      exact ⟨_, _, FR_of _ _ _ _ _ _ _ _ _ _ _ _ _ _ _ _ _ _ _ _ _ _ _ _ _ _ _ _ _ _ _ _ _ _ _ _ _ _ _ _ _ _ _ _ _ _ _ _ _ _ _ _ _ _ _ _ _ _ _ _ _ _ _ _ _ _ _ _ _ _ _ _ _ _ _ _ _ _ _ _ _ _ _ _ _ _ _ _ _ _ _ _ _ _ _ _ _ _ _ _ _ _ _ _ _ _ _ _ _ _ _ _ _ _ _ _ _ _ _ _ _ _ _ _ _ _ _ _ _ _ _ _ _ _ _ _ _ _ _ _ _ _ _ _ _ _ _ _ _ _ _ _ _ _ _ _ _ _ _ _ _ _ _ _ _ _ _ _ _ _ _ _ _ _ _ _ _ _ _ _ _ _ _ _ _ _ _ _ _ _ _ _ _ _ _ _ _ _ _ _ _ _ _ _ _ _ _ _ _ _ _ _ _ _ _ _ _ _ _ _ _ _ _ _ _ _ _ _, rfl, rfl, rfl, rfl, hA⟩
                                  · skip
                                    clear hA y0 y1 y2 y3 y4 y5 y6 y7 y8 y9 y10 y11 y12 y13
                                    rintro _ w2 ⟨u, x, rfl, h1, h3, hx, hE4, hA⟩
                                    obtain ⟨y0, y1, y2, y3, y4, y5, y6, y7, y8, y9, y10, y11, y12, y13⟩ := hY.out _ hA
                                    unfold FR
                                    rw [h1, h3, hx]
                                    clear h1 h3 hx
                                    simp only [List.drop_succ_cons, List.drop_zero]
                                    replace hE4 := Lib.hid hE4
                                    refine wpList_cut 5 (fun a' w' => ∃ (u : Nat → Value) (z : Bool), a' = FR u ∧ u 1 = .pointer (some ⟨w.heap.size, 0, none⟩) ∧ u 3 = .string ⟨l.toArray⟩ ∧ u 107 = .bool z ∧ z = (x || (!decide (delim.length ≤ 255))) ∧ BxOf C w w') ?_ ?_
                                    · skip
                                      simp only [List.take_succ_cons, List.take_zero]
                                      cases x with
                                      | true =>
                                        go_wp2_with fail
                                        exact ⟨_, _, FR_of _ _ _ _ _ _ _ _ _ _ _ _ _ _ _ _ _ _ _ _ _ _ _ _ _ _ _ _ _ _ _ _ _ _ _ _ _ _ _ _ _ _ _ _ _ _ _ _ _ _ _ _ _ _ _ _ _ _ _ _ _ _ _ _ _ _ _ _ _ _ _ _ _ _ _ _ _ _ _ _ _ _ _ _ _ _ _ _ _ _ _ _ _ _ _ _ _ _ _ _ _ _ _ _ _ _ _ _ _ _ _ _ _ _ _ _ _ _ _ _ _ _ _ _ _ _ _ _ _ _ _ _ _ _ _ _ _ _ _ _ _ _ _ _ _ _ _ _ _ _ _ _ _ _ _ _ _ _ _ _ _ _ _ _ _ _ _ _ _ _ _ _ _ _ _ _ _ _ _ _ _ _ _ _ _ _ _ _ _ _ _ _ _ _ _ _ _ _ _ _ _ _ _ _ _ _ _ _ _ _ _ _ _ _ _ _ _ _ _ _ _ _ _ _ _ _ _ _, rfl, rfl, rfl, rfl, hA⟩
                                      | false =>
                                        go_wp2_with fail
                                        refine (hSd.out _).mono ?_
                                        rintro en w3 ⟨rfl, hu3⟩
                                        replace hA := hA.next hu3
                                        clear hu3 y0 y1 y2 y3 y4 y5 y6 y7 y8 y9 y10 y11 y12 y13
                                        obtain ⟨y0, y1, y2, y3, y4, y5, y6, y7, y8, y9, y10, y11, y12, y13⟩ := hY.out _ hA
                                        go_wp2_with fail
                                        exact ⟨_, _, FR_of _ _ _ _ _ _ _ _ _ _ _ _ _ _ _ _ _ _ _ _ _ _ _ _ _ _ _ _ _ _ _ _ _ _ _ _ _ _ _ _ _ _ _ _ _ _ _ _ _ _ _ _ _ _ _ _ _ _ _ _ _ _ _ _ _ _ _ _ _ _ _ _ _ _ _ _ _ _ _ _ _ _ _ _ _ _ _ _ _ _ _ _ _ _ _ _ _ _ _ _ _ _ _ _ _ _ _ _ _ _ _ _ _ _ _ _ _ _ _ _ _ _ _ _ _ _ _ _ _ _ _ _ _ _ _ _ _ _ _ _ _ _ _ _ _ _ _ _ _ _ _ _ _ _ _ _ _ _ _ _ _ _ _ _ _ _ _ _ _ _ _ _ _ _ _ _ _ _ _ _ _ _ _ _ _ _ _ _ _ _ _ _ _ _ _ _ _ _ _ _ _ _ _ _ _ _ _ _ _ _ _ _ _ _ _ _ _ _ _ _ _ _ _ _ _ _ _ _, rfl, rfl, rfl, rfl, hA⟩
                                    · skip
                                      clear hA y0 y1 y2 y3 y4 y5 y6 y7 y8 y9 y10 y11 y12 y13
                                      rintro _ w2 ⟨u, x, rfl, h1, h3, hx, hE5, hA⟩
                                      obtain ⟨y0, y1, y2, y3, y4, y5, y6, y7, y8, y9, y10, y11, y12, y13⟩ := hY.out _ hA
                                      unfold FR
                                      rw [h1, h3, hx]
                                      clear h1 h3 hx
                                      simp only [List.drop_succ_cons, List.drop_zero]
                                      have hX : x = (((((!decide (bucket.length ≤ 255)) || (!decide (object.length ≤ 255))) || (!decide (version.length ≤ 255))) || (!decide (pre.length ≤ 255))) || (!decide (delim.length ≤ 255))) := by rw [hE5, hE4.out, hE3.out, hE2.out, hE1.out]
                                      clear hE5 hE1 hE2 hE3 hE4
                                      have hc4 := cond4 bucket.length object.length version.length pre.length delim.length
                                      rw [← hX] at hc4
                                      clear hX
                                      cases x with
                                      | true =>
                                        obtain rfl : r = false := hno.out (fun e => by
                                          obtain ⟨-, -, -, -, -, -, -, -, e9, -⟩ := e
                                          have := hc4.2 e9
                                          cases this)
                                        go_wp2_with fail
                                        go_ret
                                        exact ⟨rfl, hA.upd⟩
                                      | false =>
                                        have hf4 := Lib.hid (hc4.1 rfl)
                                        clear hc4
                                        go_wp2_with fail
                                        go_loopw [4] (fun iv wr => ∃ (k : Nat), iv = .int .i64 (k : Int) ∧ k ≤ parts.length ∧ Hid (∀ p ∈ parts.take k, 0 ≤ p ∧ p ≤ 255) ∧ BxOf C w wr) (fun iv _ => parts.length - (intOf iv).toNat)
                                        case atStart => exact ⟨0, rfl, Nat.zero_le _, Lib.hid (by simp), hA⟩
                                        case round =>
                                          clear hA y0 y1 y2 y3 y4 y5 y6 y7 y8 y9 y10 y11 y12 y13
                                          obtain ⟨k, rfl, hk, hno2, hA⟩ := hrel
                                          obtain ⟨y0, y1, y2, y3, y4, y5, y6, y7, y8, y9, y10, y11, y12, y13⟩ := hY.out _ hA
                                          by_cases hlt : k < parts.length
                                          · have hltI : (k : Int) < (parts.length : Int) := by omega
                                            have hk0 : (0 : Int) ≤ (k : Int) := by omega
                                            obtain ⟨gg, off, rfl, x0⟩ := hcell.out k hlt
                                            replace x0 := hA.upd.cell x0 fun h => h
                                            have hsn := Lib.hid (good_snoc k hlt hno2.out)
                                            have hbad := Lib.hid (fun (h : ¬ (0 ≤ parts[k] ∧ parts[k] ≤ 255)) => hno.out (fun e => h (e.2.2.2.2.2.2.2.2.2 _ (List.getElem_mem hlt))))
                                            generalize parts[k] = y at *
                                            by_cases hy0 : 0 ≤ y
                                            · have d0 : decide (y < 0) = false := decide_eq_false (by omega)
                                              by_cases hy1 : y ≤ 255
                                              · have d1' : decide (255 < y) = false := decide_eq_false (by omega)
                                                go_wp2_with fail
                                                go_roundw
                                                case rel => exact ⟨k + 1, by go_num, by omega, Lib.hid (hsn.out ⟨hy0, hy1⟩), hA⟩
                                                case measure => simp [intOf]; omega
                                              · obtain rfl := hbad.out (fun e => hy1 e.2)
                                                have d1' : decide (255 < y) = true := decide_eq_true (by omega)
                                                go_wp2_with fail
                                                go_ret
                                                exact ⟨rfl, hA.upd⟩
                                            · obtain rfl := hbad.out (fun e => hy0 e.1)
                                              have d0 : decide (y < 0) = true := decide_eq_true (by omega)
                                              go_wp2_with fail
                                              go_ret
                                              exact ⟨rfl, hA.upd⟩
                                          · obtain rfl : k = parts.length := by omega
                                            have hltI : ((parts.length : Int) < (parts.length : Int)) = False := eq_false (by omega)
                                            rw [List.take_length] at hno2
                                            have hq := hand.out (by
                                              obtain ⟨e1, e2, e3, e4, e5, e6, e7, e8⟩ := hf2.out
                                              exact ⟨e1, e2, e3, e4, e5, e6, e7, e8, hf4.out, hno2.out⟩)
                                            replace hq := Lib.hid hq
                                            clear hno hand hno2 hf2 hf4 hk hlt hparts
                                            go_upto_region 11 with fail
                                            refine wp_region_lit ?_
                                            try dsimp only [List.append]
                                            refine wpList_cut 8 (fun a' w' => ∃ (u : Nat → Value) (z : Bool), a' = FR u ∧ u 1 = .pointer (some ⟨w.heap.size, 0, none⟩) ∧ u 3 = .string ⟨l.toArray⟩ ∧ u 136 = .bool z ∧ z = (decide ((83 : UInt8) ∈ l) || (session == 0)) ∧ BxOf C w w') ?_ ?_
                                            · skip
                                              simp only [List.take_succ_cons, List.take_zero]
                                              obtain ⟨lc, hlc⟩ : ∃ lc, decide ((83 : UInt8) ∈ l) = lc := ⟨_, rfl⟩
                                              have hL : Hid (∀ w, Calls Try.prog 68 #[.string ⟨l.toArray⟩, .int .u8 83] w (Ret (.bool lc) w)) := Lib.hid (fun w => by have := hLet.out 83 w; rw [hlc] at this; exact this)
                                              replace hlc := Lib.hid hlc
                                              go_wp2_with fail
                                              refine (hL.out _).mono ?_
                                              rintro en w3 ⟨rfl, hu3⟩
                                              replace hA := hA.next hu3
                                              clear hu3 hL y0 y1 y2 y3 y4 y5 y6 y7 y8 y9 y10 y11 y12 y13
                                              obtain ⟨y0, y1, y2, y3, y4, y5, y6, y7, y8, y9, y10, y11, y12, y13⟩ := hY.out _ hA
                                              cases lc with
                                              | true =>
                                                go_wp2_with fail
                                                exact ⟨_, _, FR_of _ _ _ _ _ _ _ _ _ _ _ _ _ _ _ _ _ _ _ _ _ _ _ _ _ _ _ _ _ _ _ _ _ _ _ _ _ _ _ _ _ _ _ _ _ _ _ _ _ _ _ _ _ _ _ _ _ _ _ _ _ _ _ _ _ _ _ _ _ _ _ _ _ _ _ _ _ _ _ _ _ _ _ _ _ _ _ _ _ _ _ _ _ _ _ _ _ _ _ _ _ _ _ _ _ _ _ _ _ _ _ _ _ _ _ _ _ _ _ _ _ _ _ _ _ _ _ _ _ _ _ _ _ _ _ _ _ _ _ _ _ _ _ _ _ _ _ _ _ _ _ _ _ _ _ _ _ _ _ _ _ _ _ _ _ _ _ _ _ _ _ _ _ _ _ _ _ _ _ _ _ _ _ _ _ _ _ _ _ _ _ _ _ _ _ _ _ _ _ _ _ _ _ _ _ _ _ _ _ _ _ _ _ _ _ _ _ _ _ _ _ _ _ _ _ _ _ _, rfl, rfl, rfl, by rw [hlc.out]; rfl, hA⟩
                                              | false =>
                                                go_wp2_with fail
                                                exact ⟨_, _, FR_of _ _ _ _ _ _ _ _ _ _ _ _ _ _ _ _ _ _ _ _ _ _ _ _ _ _ _ _ _ _ _ _ _ _ _ _ _ _ _ _ _ _ _ _ _ _ _ _ _ _ _ _ _ _ _ _ _ _ _ _ _ _ _ _ _ _ _ _ _ _ _ _ _ _ _ _ _ _ _ _ _ _ _ _ _ _ _ _ _ _ _ _ _ _ _ _ _ _ _ _ _ _ _ _ _ _ _ _ _ _ _ _ _ _ _ _ _ _ _ _ _ _ _ _ _ _ _ _ _ _ _ _ _ _ _ _ _ _ _ _ _ _ _ _ _ _ _ _ _ _ _ _ _ _ _ _ _ _ _ _ _ _ _ _ _ _ _ _ _ _ _ _ _ _ _ _ _ _ _ _ _ _ _ _ _ _ _ _ _ _ _ _ _ _ _ _ _ _ _ _ _ _ _ _ _ _ _ _ _ _ _ _ _ _ _ _ _ _ _ _ _ _ _ _ _ _ _ _, rfl, rfl, rfl, by rw [hlc.out]; rfl, hA⟩
                                            · skip
                                              clear hA y0 y1 y2 y3 y4 y5 y6 y7 y8 y9 y10 y11 y12 y13
                                              rintro _ w2 ⟨u, x, rfl, h1, h3, hx, hE1, hA⟩
                                              obtain ⟨y0, y1, y2, y3, y4, y5, y6, y7, y8, y9, y10, y11, y12, y13⟩ := hY.out _ hA
                                              unfold FR
                                              rw [h1, h3, hx]
                                              clear h1 h3 hx
                                              simp only [List.drop_succ_cons, List.drop_zero]
                                              replace hE1 := Lib.hid hE1
                                              refine wpList_cut 9 (fun a' w' => ∃ (u : Nat → Value) (z : Bool), a' = FR u ∧ u 1 = .pointer (some ⟨w.heap.size, 0, none⟩) ∧ u 3 = .string ⟨l.toArray⟩ ∧ u 145 = .bool z ∧ z = (x && (decide ((66 : UInt8) ∈ l) || decide (bucket = []))) ∧ BxOf C w w') ?_ ?_
                                              · skip
                                                simp only [List.take_succ_cons, List.take_zero]
                                                cases x with
                                                | false =>
                                                  go_wp2_with fail
                                                  exact ⟨_, _, FR_of _ _ _ _ _ _ _ _ _ _ _ _ _ _ _ _ _ _ _ _ _ _ _ _ _ _ _ _ _ _ _ _ _ _ _ _ _ _ _ _ _ _ _ _ _ _ _ _ _ _ _ _ _ _ _ _ _ _ _ _ _ _ _ _ _ _ _ _ _ _ _ _ _ _ _ _ _ _ _ _ _ _ _ _ _ _ _ _ _ _ _ _ _ _ _ _ _ _ _ _ _ _ _ _ _ _ _ _ _ _ _ _ _ _ _ _ _ _ _ _ _ _ _ _ _ _ _ _ _ _ _ _ _ _ _ _ _ _ _ _ _ _ _ _ _ _ _ _ _ _ _ _ _ _ _ _ _ _ _ _ _ _ _ _ _ _ _ _ _ _ _ _ _ _ _ _ _ _ _ _ _ _ _ _ _ _ _ _ _ _ _ _ _ _ _ _ _ _ _ _ _ _ _ _ _ _ _ _ _ _ _ _ _ _ _ _ _ _ _ _ _ _ _ _ _ _ _ _, rfl, rfl, rfl, rfl, hA⟩
                                                | true =>
                                                  obtain ⟨lc, hlc⟩ : ∃ lc, decide ((66 : UInt8) ∈ l) = lc := ⟨_, rfl⟩
                                                  have hL : Hid (∀ w, Calls Try.prog 68 #[.string ⟨l.toArray⟩, .int .u8 66] w (Ret (.bool lc) w)) := Lib.hid (fun w => by have := hLet.out 66 w; rw [hlc] at this; exact this)
                                                  replace hlc := Lib.hid hlc
                                                  go_wp2_with fail
                                                  refine (hL.out _).mono ?_
                                                  rintro en w3 ⟨rfl, hu3⟩
                                                  replace hA := hA.next hu3
                                                  clear hu3 hL y0 y1 y2 y3 y4 y5 y6 y7 y8 y9 y10 y11 y12 y13
                                                  obtain ⟨y0, y1, y2, y3, y4, y5, y6, y7, y8, y9, y10, y11, y12, y13⟩ := hY.out _ hA
                                                  cases lc with
                                                  | true =>
                                                    go_wp2_with fail
                                                    exact ⟨_, _, FR_of _ _ _ _ _ _ _ _ _ _ _ _ _ _ _ _ _ _ _ _ _ _ _ _ _ _ _ _ _ _ _ _ _ _ _ _ _ _ _ _ _ _ _ _ _ _ _ _ _ _ _ _ _ _ _ _ _ _ _ _ _ _ _ _ _ _ _ _ _ _ _ _ _ _ _ _ _ _ _ _ _ _ _ _ _ _ _ _ _ _ _ _ _ _ _ _ _ _ _ _ _ _ _ _ _ _ _ _ _ _ _ _ _ _ _ _ _ _ _ _ _ _ _ _ _ _ _ _ _ _ _ _ _ _ _ _ _ _ _ _ _ _ _ _ _ _ _ _ _ _ _ _ _ _ _ _ _ _ _ _ _ _ _ _ _ _ _ _ _ _ _ _ _ _ _ _ _ _ _ _ _ _ _ _ _ _ _ _ _ _ _ _ _ _ _ _ _ _ _ _ _ _ _ _ _ _ _ _ _ _ _ _ _ _ _ _ _ _ _ _ _ _ _ _ _ _ _ _, rfl, rfl, rfl, by rw [hlc.out]; rfl, hA⟩
                                                  | false =>
                                                    go_wp2_with fail
                                                    exact ⟨_, _, FR_of _ _ _ _ _ _ _ _ _ _ _ _ _ _ _ _ _ _ _ _ _ _ _ _ _ _ _ _ _ _ _ _ _ _ _ _ _ _ _ _ _ _ _ _ _ _ _ _ _ _ _ _ _ _ _ _ _ _ _ _ _ _ _ _ _ _ _ _ _ _ _ _ _ _ _ _ _ _ _ _ _ _ _ _ _ _ _ _ _ _ _ _ _ _ _ _ _ _ _ _ _ _ _ _ _ _ _ _ _ _ _ _ _ _ _ _ _ _ _ _ _ _ _ _ _ _ _ _ _ _ _ _ _ _ _ _ _ _ _ _ _ _ _ _ _ _ _ _ _ _ _ _ _ _ _ _ _ _ _ _ _ _ _ _ _ _ _ _ _ _ _ _ _ _ _ _ _ _ _ _ _ _ _ _ _ _ _ _ _ _ _ _ _ _ _ _ _ _ _ _ _ _ _ _ _ _ _ _ _ _ _ _ _ _ _ _ _ _ _ _ _ _ _ _ _ _ _ _, rfl, rfl, rfl, by rw [hlc.out]; simp [str_eq0, isEmpty_dec], hA⟩
                                              · skip
                                                clear hA y0 y1 y2 y3 y4 y5 y6 y7 y8 y9 y10 y11 y12 y13
                                                rintro _ w2 ⟨u, x, rfl, h1, h3, hx, hE2, hA⟩
                                                obtain ⟨y0, y1, y2, y3, y4, y5, y6, y7, y8, y9, y10, y11, y12, y13⟩ := hY.out _ hA
                                                unfold FR
                                                rw [h1, h3, hx]
                                                clear h1 h3 hx
                                                simp only [List.drop_succ_cons, List.drop_zero]
                                                replace hE2 := Lib.hid hE2
                                                refine wpList_cut 9 (fun a' w' => ∃ (u : Nat → Value) (z : Bool), a' = FR u ∧ u 1 = .pointer (some ⟨w.heap.size, 0, none⟩) ∧ u 3 = .string ⟨l.toArray⟩ ∧ u 154 = .bool z ∧ z = (x && (decide ((79 : UInt8) ∈ l) || decide (object = []))) ∧ BxOf C w w') ?_ ?_
                                                · skip
                                                  simp only [List.take_succ_cons, List.take_zero]
                                                  cases x with
                                                  | false =>
                                                    go_wp2_with fail
                                                    exact ⟨_, _, FR_of _ _ _ _ _ _ _ _ _ _ _ _ _ _ _ _ _ _ _ _ _ _ _ _ _ _ _ _ _ _ _ _ _ _ _ _ _ _ _ _ _ _ _ _ _ _ _ _ _ _ _ _ _ _ _ _ _ _ _ _ _ _ _ _ _ _ _ _ _ _ _ _ _ _ _ _ _ _ _ _ _ _ _ _ _ _ _ _ _ _ _ _ _ _ _ _ _ _ _ _ _ _ _ _ _ _ _ _ _ _ _ _ _ _ _ _ _ _ _ _ _ _ _ _ _ _ _ _ _ _ _ _ _ _ _ _ _ _ _ _ _ _ _ _ _ _ _ _ _ _ _ _ _ _ _ _ _ _ _ _ _ _ _ _ _ _ _ _ _ _ _ _ _ _ _ _ _ _ _ _ _ _ _ _ _ _ _ _ _ _ _ _ _ _ _ _ _ _ _ _ _ _ _ _ _ _ _ _ _ _ _ _ _ _ _ _ _ _ _ _ _ _ _ _ _ _ _ _, rfl, rfl, rfl, rfl, hA⟩
                                                  | true =>
                                                    obtain ⟨lc, hlc⟩ : ∃ lc, decide ((79 : UInt8) ∈ l) = lc := ⟨_, rfl⟩
                                                    have hL : Hid (∀ w, Calls Try.prog 68 #[.string ⟨l.toArray⟩, .int .u8 79] w (Ret (.bool lc) w)) := Lib.hid (fun w => by have := hLet.out 79 w; rw [hlc] at this; exact this)
                                                    replace hlc := Lib.hid hlc
                                                    go_wp2_with fail
                                                    refine (hL.out _).mono ?_
                                                    rintro en w3 ⟨rfl, hu3⟩
                                                    replace hA := hA.next hu3
                                                    clear hu3 hL y0 y1 y2 y3 y4 y5 y6 y7 y8 y9 y10 y11 y12 y13
                                                    obtain ⟨y0, y1, y2, y3, y4, y5, y6, y7, y8, y9, y10, y11, y12, y13⟩ := hY.out _ hA
                                                    cases lc with
                                                    | true =>
                                                      go_wp2_with fail
                                                      exact ⟨_, _, FR_of _ _ _ _ _ _ _ _ _ _ _ _ _ _ _ _ _ _ _ _ _ _ _ _ _ _ _ _ _ _ _ _ _ _ _ _ _ _ _ _ _ _ _ _ _ _ _ _ _ _ _ _ _ _ _ _ _ _ _ _ _ _ _ _ _ _ _ _ _ _ _ _ _ _ _ _ _ _ _ _ _ _ _ _ _ _ _ _ _ _ _ _ _ _ _ _ _ _ _ _ _ _ _ _ _ _ _ _ _ _ _ _ _ _ _ _ _ _ _ _ _ _ _ _ _ _ _ _ _ _ _ _ _ _ _ _ _ _ _ _ _ _ _ _ _ _ _ _ _ _ _ _ _ _ _ _ _ _ _ _ _ _ _ _ _ _ _ _ _ _ _ _ _ _ _ _ _ _ _ _ _ _ _ _ _ _ _ _ _ _ _ _ _ _ _ _ _ _ _ _ _ _ _ _ _ _ _ _ _ _ _ _ _ _ _ _ _ _ _ _ _ _ _ _ _ _ _ _, rfl, rfl, rfl, by rw [hlc.out]; rfl, hA⟩
                                                    | false =>
                                                      go_wp2_with fail
                                                      exact ⟨_, _, FR_of _ _ _ _ _ _ _ _ _ _ _ _ _ _ _ _ _ _ _ _ _ _ _ _ _ _ _ _ _ _ _ _ _ _ _ _ _ _ _ _ _ _ _ _ _ _ _ _ _ _ _ _ _ _ _ _ _ _ _ _ _ _ _ _ _ _ _ _ _ _ _ _ _ _ _ _ _ _ _ _ _ _ _ _ _ _ _ _ _ _ _ _ _ _ _ _ _ _ _ _ _ _ _ _ _ _ _ _ _ _ _ _ _ _ _ _ _ _ _ _ _ _ _ _ _ _ _ _ _ _ _ _ _ _ _ _ _ _ _ _ _ _ _ _ _ _ _ _ _ _ _ _ _ _ _ _ _ _ _ _ _ _ _ _ _ _ _ _ _ _ _ _ _ _ _ _ _ _ _ _ _ _ _ _ _ _ _ _ _ _ _ _ _ _ _ _ _ _ _ _ _ _ _ _ _ _ _ _ _ _ _ _ _ _ _ _ _ _ _ _ _ _ _ _ _ _ _ _, rfl, rfl, rfl, by rw [hlc.out]; simp [str_eq0, isEmpty_dec], hA⟩
                                                · skip
                                                  clear hA y0 y1 y2 y3 y4 y5 y6 y7 y8 y9 y10 y11 y12 y13
                                                  rintro _ w2 ⟨u, x, rfl, h1, h3, hx, hE3, hA⟩
                                                  obtain ⟨y0, y1, y2, y3, y4, y5, y6, y7, y8, y9, y10, y11, y12, y13⟩ := hY.out _ hA
                                                  unfold FR
                                                  rw [h1, h3, hx]
                                                  clear h1 h3 hx
                                                  simp only [List.drop_succ_cons, List.drop_zero]
                                                  replace hE3 := Lib.hid hE3
                                                  refine wpList_cut 9 (fun a' w' => ∃ (u : Nat → Value) (z : Bool), a' = FR u ∧ u 1 = .pointer (some ⟨w.heap.size, 0, none⟩) ∧ u 3 = .string ⟨l.toArray⟩ ∧ u 163 = .bool z ∧ z = (x && (decide ((86 : UInt8) ∈ l) || decide (version = []))) ∧ BxOf C w w') ?_ ?_
                                                  · skip
                                                    simp only [List.take_succ_cons, List.take_zero]
                                                    cases x with
                                                    | false =>
                                                      go_wp2_with fail
                                                      exact ⟨_, _, FR_of _ _ _ _ _ _ _ _ _ _ _ _ _ _ _ _ _ _ _ _ _ _ _ _ _ _ _ _ _ _ _ _ _ _ _ _ _ _ _ _ _ _ _ _ _ _ _ _ _ _ _ _ _ _ _ _ _ _ _ _ _ _ _ _ _ _ _ _ _ _ _ _ _ _ _ _ _ _ _ _ _ _ _ _ _ _ _ _ _ _ _ _ _ _ _ _ _ _ _ _ _ _ _ _ _ _ _ _ _ _ _ _ _ _ _ _ _ _ _ _ _ _ _ _ _ _ _ _ _ _ _ _ _ _ _ _ _ _ _ _ _ _ _ _ _ _ _ _ _ _ _ _ _ _ _ _ _ _ _ _ _ _ _ _ _ _ _ _ _ _ _ _ _ _ _ _ _ _ _ _ _ _ _ _ _ _ _ _ _ _ _ _ _ _ _ _ _ _ _ _ _ _ _ _ _ _ _ _ _ _ _ _ _ _ _ _ _ _ _ _ _ _ _ _ _ _ _ _, rfl, rfl, rfl, rfl, hA⟩
                                                    | true =>
                                                      obtain ⟨lc, hlc⟩ : ∃ lc, decide ((86 : UInt8) ∈ l) = lc := ⟨_, rfl⟩
                                                      have hL : Hid (∀ w, Calls Try.prog 68 #[.string ⟨l.toArray⟩, .int .u8 86] w (Ret (.bool lc) w)) := Lib.hid (fun w => by have := hLet.out 86 w; rw [hlc] at this; exact this)
                                                      replace hlc := Lib.hid hlc
                                                      go_wp2_with fail
                                                      refine (hL.out _).mono ?_
                                                      rintro en w3 ⟨rfl, hu3⟩
                                                      replace hA := hA.next hu3
                                                      clear hu3 hL y0 y1 y2 y3 y4 y5 y6 y7 y8 y9 y10 y11 y12 y13
                                                      obtain ⟨y0, y1, y2, y3, y4, y5, y6, y7, y8, y9, y10, y11, y12, y13⟩ := hY.out _ hA
                                                      cases lc with
                                                      | true =>
                                                        go_wp2_with fail
                                                        exact ⟨_, _, FR_of _ _ _ _ _ _ _ _ _ _ _ _ _ _ _ _ _ _ _ _ _ _ _ _ _ _ _ _ _ _ _ _ _ _ _ _ _ _ _ _ _ _ _ _ _ _ _ _ _ _ _ _ _ _ _ _ _ _ _ _ _ _ _ _ _ _ _ _ _ _ _ _ _ _ _ _ _ _ _ _ _ _ _ _ _ _ _ _ _ _ _ _ _ _ _ _ _ _ _ _ _ _ _ _ _ _ _ _ _ _ _ _ _ _ _ _ _ _ _ _ _ _ _ _ _ _ _ _ _ _ _ _ _ _ _ _ _ _ _ _ _ _ _ _ _ _ _ _ _ _ _ _ _ _ _ _ _ _ _ _ _ _ _ _ _ _ _ _ _ _ _ _ _ _ _ _ _ _ _ _ _ _ _ _ _ _ _ _ _ _ _ _ _ _ _ _ _ _ _ _ _ _ _ _ _ _ _ _ _ _ _ _ _ _ _ _ _ _ _ _ _ _ _ _ _ _ _ _, rfl, rfl, rfl, by rw [hlc.out]; rfl, hA⟩
                                                      | false =>
                                                        go_wp2_with fail
                                                        exact ⟨_, _, FR_of _ _ _ _ _ _ _ _ _ _ _ _ _ _ _ _ _ _ _ _ _ _ _ _ _ _ _ _ _ _ _ _ _ _ _ _ _ _ _ _ _ _ _ _ _ _ _ _ _ _ _ _ _ _ _ _ _ _ _ _ _ _ _ _ _ _ _ _ _ _ _ _ _ _ _ _ _ _ _ _ _ _ _ _ _ _ _ _ _ _ _ _ _ _ _ _ _ _ _ _ _ _ _ _ _ _ _ _ _ _ _ _ _ _ _ _ _ _ _ _ _ _ _ _ _ _ _ _ _ _ _ _ _ _ _ _ _ _ _ _ _ _ _ _ _ _ _ _ _ _ _ _ _ _ _ _ _ _ _ _ _ _ _ _ _ _ _ _ _ _ _ _ _ _ _ _ _ _ _ _ _ _ _ _ _ _ _ _ _ _ _ _ _ _ _ _ _ _ _ _ _ _ _ _ _ _ _ _ _ _ _ _ _ _ _ _ _ _ _ _ _ _ _ _ _ _ _ _, rfl, rfl, rfl, by rw [hlc.out]; simp [str_eq0, isEmpty_dec], hA⟩
                                                  · skip
                                                    clear hA y0 y1 y2 y3 y4 y5 y6 y7 y8 y9 y10 y11 y12 y13
                                                    rintro _ w2 ⟨u, x, rfl, h1, h3, hx, hE4, hA⟩
                                                    obtain ⟨y0, y1, y2, y3, y4, y5, y6, y7, y8, y9, y10, y11, y12, y13⟩ := hY.out _ hA
                                                    unfold FR
                                                    rw [h1, h3, hx]
                                                    clear h1 h3 hx
                                                    simp only [List.drop_succ_cons, List.drop_zero]
                                                    replace hE4 := Lib.hid hE4
                                                    refine wpList_cut 9 (fun a' w' => ∃ (u : Nat → Value) (z : Bool), a' = FR u ∧ u 1 = .pointer (some ⟨w.heap.size, 0, none⟩) ∧ u 3 = .string ⟨l.toArray⟩ ∧ u 172 = .bool z ∧ z = (x && (decide ((80 : UInt8) ∈ l) || decide (pre = []))) ∧ BxOf C w w') ?_ ?_
                                                    · skip
                                                      simp only [List.take_succ_cons, List.take_zero]
                                                      cases x with
                                                      | false =>
                                                        go_wp2_with fail
                                                        exact ⟨_, _, FR_of _ _ _ _ _ _ _ _ _ _ _ _ _ _ _ _ _ _ _ _ _ _ _ _ _ _ _ _ _ _ _ _ _ _ _ _ _ _ _ _ _ _ _ _ _ _ _ _ _ _ _ _ _ _ _ _ _ _ _ _ _ _ _ _ _ _ _ _ _ _ _ _ _ _ _ _ _ _ _ _ _ _ _ _ _ _ _ _ _ _ _ _ _ _ _ _ _ _ _ _ _ _ _ _ _ _ _ _ _ _ _ _ _ _ _ _ _ _ _ _ _ _ _ _ _ _ _ _ _ _ _ _ _ _ _ _ _ _ _ _ _ _ _ _ _ _ _ _ _ _ _ _ _ _ _ _ _ _ _ _ _ _ _ _ _ _ _ _ _ _ _ _ _ _ _ _ _ _ _ _ _ _ _ _ _ _ _ _ _ _ _ _ _ _ _ _ _ _ _ _ _ _ _ _ _ _ _ _ _ _ _ _ _ _ _ _ _ _ _ _ _ _ _ _ _ _ _ _, rfl, rfl, rfl, rfl, hA⟩
                                                      | true =>
                                                        obtain ⟨lc, hlc⟩ : ∃ lc, decide ((80 : UInt8) ∈ l) = lc := ⟨_, rfl⟩
                                                        have hL : Hid (∀ w, Calls Try.prog 68 #[.string ⟨l.toArray⟩, .int .u8 80] w (Ret (.bool lc) w)) := Lib.hid (fun w => by have := hLet.out 80 w; rw [hlc] at this; exact this)
                                                        replace hlc := Lib.hid hlc
                                                        go_wp2_with fail
                                                        refine (hL.out _).mono ?_
                                                        rintro en w3 ⟨rfl, hu3⟩
                                                        replace hA := hA.next hu3
                                                        clear hu3 hL y0 y1 y2 y3 y4 y5 y6 y7 y8 y9 y10 y11 y12 y13
                                                        obtain ⟨y0, y1, y2, y3, y4, y5, y6, y7, y8, y9, y10, y11, y12, y13⟩ := hY.out _ hA
                                                        cases lc with
                                                        | true =>
                                                          go_wp2_with fail
                                                          exact ⟨_, _, FR_of _ _ _ _ _ _ _ _ _ _ _ _ _ _ _ _ _ _ _ _ _ _ _ _ _ _ _ _ _ _ _ _ _ _ _ _ _ _ _ _ _ _ _ _ _ _ _ _ _ _ _ _ _ _ _ _ _ _ _ _ _ _ _ _ _ _ _ _ _ _ _ _ _ _ _ _ _ _ _ _ _ _ _ _ _ _ _ _ _ _ _ _ _ _ _ _ _ _ _ _ _ _ _ _ _ _ _ _ _ _ _ _ _ _ _ _ _ _ _ _ _ _ _ _ _ _ _ _ _ _ _ _ _ _ _ _ _ _ _ _ _ _ _ _ _ _ _ _ _ _ _ _ _ _ _ _ _ _ _ _ _ _ _ _ _ _ _ _ _ _ _ _ _ _ _ _ _ _ _ _ _ _ _ _ _ _ _ _ _ _ _ _ _ _ _ _ _ _ _ _ _ _ _ _ _ _ _ _ _ _ _ _ _ _ _ _ _ _ _ _ _ _ _ _ _ _ _ _, rfl, rfl, rfl, by rw [hlc.out]; rfl, hA⟩
                                                        | false =>
                                                          go_wp2_with fail
                                                          exact ⟨_, _, FR_of _ _ _ _ _ _ _ _ _ _ _ _ _ _ _ _ _ _ _ _ _ _ _ _ _ _ _ _ _ _ _ _ _ _ _ _ _ _ _ _ _ _ _ _ _ _ _ _ _ _ _ _ _ _ _ _ _ _ _ _ _ _ _ _ _ _ _ _ _ _ _ _ _ _ _ _ _ _ _ _ _ _ _ _ _ _ _ _ _ _ _ _ _ _ _ _ _ _ _ _ _ _ _ _ _ _ _ _ _ _ _ _ _ _ _ _ _ _ _ _ _ _ _ _ _ _ _ _ _ _ _ _ _ _ _ _ _ _ _ _ _ _ _ _ _ _ _ _ _ _ _ _ _ _ _ _ _ _ _ _ _ _ _ _ _ _ _ _ _ _ _ _ _ _ _ _ _ _ _ _ _ _ _ _ _ _ _ _ _ _ _ _ _ _ _ _ _ _ _ _ _ _ _ _ _ _ _ _ _ _ _ _ _ _ _ _ _ _ _ _ _ _ _ _ _ _ _ _, rfl, rfl, rfl, by rw [hlc.out]; simp [str_eq0, isEmpty_dec], hA⟩
                                                    · skip
                                                      clear hA y0 y1 y2 y3 y4 y5 y6 y7 y8 y9 y10 y11 y12 y13
                                                      rintro _ w2 ⟨u, x, rfl, h1, h3, hx, hE5, hA⟩
                                                      obtain ⟨y0, y1, y2, y3, y4, y5, y6, y7, y8, y9, y10, y11, y12, y13⟩ := hY.out _ hA
                                                      unfold FR
                                                      rw [h1, h3, hx]
                                                      clear h1 h3 hx
                                                      simp only [List.drop_succ_cons, List.drop_zero]
                                                      replace hE5 := Lib.hid hE5
                                                      refine wpList_cut 9 (fun a' w' => ∃ (u : Nat → Value) (z : Bool), a' = FR u ∧ u 1 = .pointer (some ⟨w.heap.size, 0, none⟩) ∧ u 3 = .string ⟨l.toArray⟩ ∧ u 181 = .bool z ∧ z = (x && (decide ((68 : UInt8) ∈ l) || decide (delim = []))) ∧ BxOf C w w') ?_ ?_
                                                      · skip
                                                        simp only [List.take_succ_cons, List.take_zero]
                                                        cases x with
                                                        | false =>
                                                          go_wp2_with fail
                                                          exact ⟨_, _, FR_of _ _ _ _ _ _ _ _ _ _ _ _ _ _ _ _ _ _ _ _ _ _ _ _ _ _ _ _ _ _ _ _ _ _ _ _ _ _ _ _ _ _ _ _ _ _ _ _ _ _ _ _ _ _ _ _ _ _ _ _ _ _ _ _ _ _ _ _ _ _ _ _ _ _ _ _ _ _ _ _ _ _ _ _ _ _ _ _ _ _ _ _ _ _ _ _ _ _ _ _ _ _ _ _ _ _ _ _ _ _ _ _ _ _ _ _ _ _ _ _ _ _ _ _ _ _ _ _ _ _ _ _ _ _ _ _ _ _ _ _ _ _ _ _ _ _ _ _ _ _ _ _ _ _ _ _ _ _ _ _ _ _ _ _ _ _ _ _ _ _ _ _ _ _ _ _ _ _ _ _ _ _ _ _ _ _ _ _ _ _ _ _ _ _ _ _ _ _ _ _ _ _ _ _ _ _ _ _ _ _ _ _ _ _ _ _ _ _ _ _ _ _ _ _ _ _ _ _, rfl, rfl, rfl, rfl, hA⟩
                                                        | true =>
                                                          obtain ⟨lc, hlc⟩ : ∃ lc, decide ((68 : UInt8) ∈ l) = lc := ⟨_, rfl⟩
                                                          have hL : Hid (∀ w, Calls Try.prog 68 #[.string ⟨l.toArray⟩, .int .u8 68] w (Ret (.bool lc) w)) := Lib.hid (fun w => by have := hLet.out 68 w; rw [hlc] at this; exact this)
                                                          replace hlc := Lib.hid hlc
                                                          go_wp2_with fail
                                                          refine (hL.out _).mono ?_
                                                          rintro en w3 ⟨rfl, hu3⟩
                                                          replace hA := hA.next hu3
                                                          clear hu3 hL y0 y1 y2 y3 y4 y5 y6 y7 y8 y9 y10 y11 y12 y13
                                                          obtain ⟨y0, y1, y2, y3, y4, y5, y6, y7, y8, y9, y10, y11, y12, y13⟩ := hY.out _ hA
                                                          cases lc with
                                                          | true =>
                                                            go_wp2_with fail
                                                            exact ⟨_, _, FR_of _ _ _ _ _ _ _ _ _ _ _ _ _ _ _ _ _ _ _ _ _ _ _ _ _ _ _ _ _ _ _ _ _ _ _ _ _ _ _ _ _ _ _ _ _ _ _ _ _ _ _ _ _ _ _ _ _ _ _ _ _ _ _ _ _ _ _ _ _ _ _ _ _ _ _ _ _ _ _ _ _ _ _ _ _ _ _ _ _ _ _ _ _ _ _ _ _ _ _ _ _ _ _ _ _ _ _ _ _ _ _ _ _ _ _ _ _ _ _ _ _ _ _ _ _ _ _ _ _ _ _ _ _ _ _ _ _ _ _ _ _ _ _ _ _ _ _ _ _ _ _ _ _ _ _ _ _ _ _ _ _ _ _ _ _ _ _ _ _ _ _ _ _ _ _ _ _ _ _ _ _ _ _ _ _ _ _ _ _ _ _ _ _ _ _ _ _ _ _ _ _ _ _ _ _ _ _ _ _ _ _ _ _ _ _ _ _ _ _ _ _ _ _ _ _ _ _ _, rfl, rfl, rfl, by rw [hlc.out]; rfl, hA⟩
                                                          | false =>
                                                            go_wp2_with fail
                                                            exact ⟨_, _, FR_of _ _ _ _ _ _ _ _ _ _ _ _ _ _ _ _ _ _ _ _ _ _ _ _ _ _ _ _ _ _ _ _ _ _ _ _ _ _ _ _ _ _ _ _ _ _ _ _ _ _ _ _ _ _ _ _ _ _ _ _ _ _ _ _ _ _ _ _ _ _ _ _ _ _ _ _ _ _ _ _ _ _ _ _ _ _ _ _ _ _ _ _ _ _ _ _ _ _ _ _ _ _ _ _ _ _ _ _ _ _ _ _ _ _ _ _ _ _ _ _ _ _ _ _ _ _ _ _ _ _ _ _ _ _ _ _ _ _ _ _ _ _ _ _ _ _ _ _ _ _ _ _ _ _ _ _ _ _ _ _ _ _ _ _ _ _ _ _ _ _ _ _ _ _ _ _ _ _ _ _ _ _ _ _ _ _ _ _ _ _ _ _ _ _ _ _ _ _ _ _ _ _ _ _ _ _ _ _ _ _ _ _ _ _ _ _ _ _ _ _ _ _ _ _ _ _ _ _, rfl, rfl, rfl, by rw [hlc.out]; simp [str_eq0, isEmpty_dec], hA⟩
                                                      · skip
                                                        clear hA y0 y1 y2 y3 y4 y5 y6 y7 y8 y9 y10 y11 y12 y13
                                                        rintro _ w2 ⟨u, x, rfl, h1, h3, hx, hE6, hA⟩
                                                        obtain ⟨y0, y1, y2, y3, y4, y5, y6, y7, y8, y9, y10, y11, y12, y13⟩ := hY.out _ hA
                                                        unfold FR
                                                        rw [h1, h3, hx]
                                                        clear h1 h3 hx
                                                        simp only [List.drop_succ_cons, List.drop_zero]
                                                        replace hE6 := Lib.hid hE6
                                                        refine wpList_cut 10 (fun a' w' => ∃ (u : Nat → Value) (z : Bool), a' = FR u ∧ u 1 = .pointer (some ⟨w.heap.size, 0, none⟩) ∧ u 3 = .string ⟨l.toArray⟩ ∧ u 191 = .bool z ∧ z = (x && (decide ((67 : UInt8) ∈ l) || (decide (ck = 0) && (decide (re = 0) && decide (im = 0))))) ∧ BxOf C w w') ?_ ?_
                                                        · skip
                                                          simp only [List.take_succ_cons, List.take_zero]
                                                          cases x with
                                                          | false =>
                                                            go_wp2_with fail
                                                            exact ⟨_, _, FR_of _ _ _ _ _ _ _ _ _ _ _ _ _ _ _ _ _ _ _ _ _ _ _ _ _ _ _ _ _ _ _ _ _ _ _ _ _ _ _ _ _ _ _ _ _ _ _ _ _ _ _ _ _ _ _ _ _ _ _ _ _ _ _ _ _ _ _ _ _ _ _ _ _ _ _ _ _ _ _ _ _ _ _ _ _ _ _ _ _ _ _ _ _ _ _ _ _ _ _ _ _ _ _ _ _ _ _ _ _ _ _ _ _ _ _ _ _ _ _ _ _ _ _ _ _ _ _ _ _ _ _ _ _ _ _ _ _ _ _ _ _ _ _ _ _ _ _ _ _ _ _ _ _ _ _ _ _ _ _ _ _ _ _ _ _ _ _ _ _ _ _ _ _ _ _ _ _ _ _ _ _ _ _ _ _ _ _ _ _ _ _ _ _ _ _ _ _ _ _ _ _ _ _ _ _ _ _ _ _ _ _ _ _ _ _ _ _ _ _ _ _ _ _ _ _ _ _ _, rfl, rfl, rfl, rfl, hA⟩
                                                          | true =>
                                                            obtain ⟨lc, hlc⟩ : ∃ lc, decide ((67 : UInt8) ∈ l) = lc := ⟨_, rfl⟩
                                                            have hL : Hid (∀ w, Calls Try.prog 68 #[.string ⟨l.toArray⟩, .int .u8 67] w (Ret (.bool lc) w)) := Lib.hid (fun w => by have := hLet.out 67 w; rw [hlc] at this; exact this)
                                                            replace hlc := Lib.hid hlc
                                                            go_wp2_with fail
                                                            refine (hL.out _).mono ?_
                                                            rintro en w3 ⟨rfl, hu3⟩
                                                            replace hA := hA.next hu3
                                                            clear hu3 hL y0 y1 y2 y3 y4 y5 y6 y7 y8 y9 y10 y11 y12 y13
                                                            obtain ⟨y0, y1, y2, y3, y4, y5, y6, y7, y8, y9, y10, y11, y12, y13⟩ := hY.out _ hA
                                                            cases lc with
                                                            | true =>
                                                              go_wp2_with fail
                                                              exact ⟨_, _, FR_of _ _ _ _ _ _ _ _ _ _ _ _ _ _ _ _ _ _ _ _ _ _ _ _ _ _ _ _ _ _ _ _ _ _ _ _ _ _ _ _ _ _ _ _ _ _ _ _ _ _ _ _ _ _ _ _ _ _ _ _ _ _ _ _ _ _ _ _ _ _ _ _ _ _ _ _ _ _ _ _ _ _ _ _ _ _ _ _ _ _ _ _ _ _ _ _ _ _ _ _ _ _ _ _ _ _ _ _ _ _ _ _ _ _ _ _ _ _ _ _ _ _ _ _ _ _ _ _ _ _ _ _ _ _ _ _ _ _ _ _ _ _ _ _ _ _ _ _ _ _ _ _ _ _ _ _ _ _ _ _ _ _ _ _ _ _ _ _ _ _ _ _ _ _ _ _ _ _ _ _ _ _ _ _ _ _ _ _ _ _ _ _ _ _ _ _ _ _ _ _ _ _ _ _ _ _ _ _ _ _ _ _ _ _ _ _ _ _ _ _ _ _ _ _ _ _ _ _, rfl, rfl, rfl, by rw [hlc.out]; rfl, hA⟩
                                                            | false =>
                                                              go_wp2_with fail
                                                              exact ⟨_, _, FR_of _ _ _ _ _ _ _ _ _ _ _ _ _ _ _ _ _ _ _ _ _ _ _ _ _ _ _ _ _ _ _ _ _ _ _ _ _ _ _ _ _ _ _ _ _ _ _ _ _ _ _ _ _ _ _ _ _ _ _ _ _ _ _ _ _ _ _ _ _ _ _ _ _ _ _ _ _ _ _ _ _ _ _ _ _ _ _ _ _ _ _ _ _ _ _ _ _ _ _ _ _ _ _ _ _ _ _ _ _ _ _ _ _ _ _ _ _ _ _ _ _ _ _ _ _ _ _ _ _ _ _ _ _ _ _ _ _ _ _ _ _ _ _ _ _ _ _ _ _ _ _ _ _ _ _ _ _ _ _ _ _ _ _ _ _ _ _ _ _ _ _ _ _ _ _ _ _ _ _ _ _ _ _ _ _ _ _ _ _ _ _ _ _ _ _ _ _ _ _ _ _ _ _ _ _ _ _ _ _ _ _ _ _ _ _ _ _ _ _ _ _ _ _ _ _ _ _ _, rfl, rfl, rfl, by rw [hlc.out]; rfl, hA⟩
                                                        · skip
                                                          clear hA y0 y1 y2 y3 y4 y5 y6 y7 y8 y9 y10 y11 y12 y13
                                                          rintro _ w2 ⟨u, x, rfl, h1, h3, hx, hE7, hA⟩
                                                          obtain ⟨y0, y1, y2, y3, y4, y5, y6, y7, y8, y9, y10, y11, y12, y13⟩ := hY.out _ hA
                                                          unfold FR
                                                          rw [h1, h3, hx]
                                                          clear h1 h3 hx
                                                          simp only [List.drop_succ_cons, List.drop_zero]
                                                          replace hE7 := Lib.hid hE7
                                                          refine wpList_cut 9 (fun a' w' => ∃ (u : Nat → Value) (z : Bool), a' = FR u ∧ u 1 = .pointer (some ⟨w.heap.size, 0, none⟩) ∧ u 3 = .string ⟨l.toArray⟩ ∧ u 200 = .bool z ∧ z = (x && (decide ((73 : UInt8) ∈ l) || (id == 0))) ∧ BxOf C w w') ?_ ?_
                                                          · skip
                                                            simp only [List.take_succ_cons, List.take_zero]
                                                            cases x with
                                                            | false =>
                                                              go_wp2_with fail
                                                              exact ⟨_, _, FR_of _ _ _ _ _ _ _ _ _ _ _ _ _ _ _ _ _ _ _ _ _ _ _ _ _ _ _ _ _ _ _ _ _ _ _ _ _ _ _ _ _ _ _ _ _ _ _ _ _ _ _ _ _ _ _ _ _ _ _ _ _ _ _ _ _ _ _ _ _ _ _ _ _ _ _ _ _ _ _ _ _ _ _ _ _ _ _ _ _ _ _ _ _ _ _ _ _ _ _ _ _ _ _ _ _ _ _ _ _ _ _ _ _ _ _ _ _ _ _ _ _ _ _ _ _ _ _ _ _ _ _ _ _ _ _ _ _ _ _ _ _ _ _ _ _ _ _ _ _ _ _ _ _ _ _ _ _ _ _ _ _ _ _ _ _ _ _ _ _ _ _ _ _ _ _ _ _ _ _ _ _ _ _ _ _ _ _ _ _ _ _ _ _ _ _ _ _ _ _ _ _ _ _ _ _ _ _ _ _ _ _ _ _ _ _ _ _ _ _ _ _ _ _ _ _ _ _ _, rfl, rfl, rfl, rfl, hA⟩
                                                            | true =>
                                                              obtain ⟨lc, hlc⟩ : ∃ lc, decide ((73 : UInt8) ∈ l) = lc := ⟨_, rfl⟩
                                                              have hL : Hid (∀ w, Calls Try.prog 68 #[.string ⟨l.toArray⟩, .int .u8 73] w (Ret (.bool lc) w)) := Lib.hid (fun w => by have := hLet.out 73 w; rw [hlc] at this; exact this)
                                                              replace hlc := Lib.hid hlc
                                                              go_wp2_with fail
                                                              refine (hL.out _).mono ?_
                                                              rintro en w3 ⟨rfl, hu3⟩
                                                              replace hA := hA.next hu3
                                                              clear hu3 hL y0 y1 y2 y3 y4 y5 y6 y7 y8 y9 y10 y11 y12 y13
                                                              obtain ⟨y0, y1, y2, y3, y4, y5, y6, y7, y8, y9, y10, y11, y12, y13⟩ := hY.out _ hA
                                                              cases lc with
                                                              | true =>
                                                                go_wp2_with fail
                                                                exact ⟨_, _, FR_of _ _ _ _ _ _ _ _ _ _ _ _ _ _ _ _ _ _ _ _ _ _ _ _ _ _ _ _ _ _ _ _ _ _ _ _ _ _ _ _ _ _ _ _ _ _ _ _ _ _ _ _ _ _ _ _ _ _ _ _ _ _ _ _ _ _ _ _ _ _ _ _ _ _ _ _ _ _ _ _ _ _ _ _ _ _ _ _ _ _ _ _ _ _ _ _ _ _ _ _ _ _ _ _ _ _ _ _ _ _ _ _ _ _ _ _ _ _ _ _ _ _ _ _ _ _ _ _ _ _ _ _ _ _ _ _ _ _ _ _ _ _ _ _ _ _ _ _ _ _ _ _ _ _ _ _ _ _ _ _ _ _ _ _ _ _ _ _ _ _ _ _ _ _ _ _ _ _ _ _ _ _ _ _ _ _ _ _ _ _ _ _ _ _ _ _ _ _ _ _ _ _ _ _ _ _ _ _ _ _ _ _ _ _ _ _ _ _ _ _ _ _ _ _ _ _ _ _, rfl, rfl, rfl, by rw [hlc.out]; rfl, hA⟩
                                                              | false =>
                                                                go_wp2_with fail
                                                                exact ⟨_, _, FR_of _ _ _ _ _ _ _ _ _ _ _ _ _ _ _ _ _ _ _ _ _ _ _ _ _ _ _ _ _ _ _ _ _ _ _ _ _ _ _ _ _ _ _ _ _ _ _ _ _ _ _ _ _ _ _ _ _ _ _ _ _ _ _ _ _ _ _ _ _ _ _ _ _ _ _ _ _ _ _ _ _ _ _ _ _ _ _ _ _ _ _ _ _ _ _ _ _ _ _ _ _ _ _ _ _ _ _ _ _ _ _ _ _ _ _ _ _ _ _ _ _ _ _ _ _ _ _ _ _ _ _ _ _ _ _ _ _ _ _ _ _ _ _ _ _ _ _ _ _ _ _ _ _ _ _ _ _ _ _ _ _ _ _ _ _ _ _ _ _ _ _ _ _ _ _ _ _ _ _ _ _ _ _ _ _ _ _ _ _ _ _ _ _ _ _ _ _ _ _ _ _ _ _ _ _ _ _ _ _ _ _ _ _ _ _ _ _ _ _ _ _ _ _ _ _ _ _ _, rfl, rfl, rfl, by rw [hlc.out]; rfl, hA⟩
                                                          · skip
                                                            clear hA y0 y1 y2 y3 y4 y5 y6 y7 y8 y9 y10 y11 y12 y13
                                                            rintro _ w2 ⟨u, x, rfl, h1, h3, hx, hE8, hA⟩
                                                            obtain ⟨y0, y1, y2, y3, y4, y5, y6, y7, y8, y9, y10, y11, y12, y13⟩ := hY.out _ hA
                                                            unfold FR
                                                            rw [h1, h3, hx]
                                                            clear h1 h3 hx
                                                            simp only [List.drop_succ_cons, List.drop_zero]
                                                            replace hE8 := Lib.hid hE8
                                                            refine wpList_cut 9 (fun a' w' => ∃ (u : Nat → Value) (z : Bool), a' = FR u ∧ u 1 = .pointer (some ⟨w.heap.size, 0, none⟩) ∧ u 3 = .string ⟨l.toArray⟩ ∧ u 209 = .bool z ∧ z = (x && (decide ((78 : UInt8) ∈ l) || (n == 0))) ∧ BxOf C w w') ?_ ?_
                                                            · skip
                                                              simp only [List.take_succ_cons, List.take_zero]
                                                              cases x with
                                                              | false =>
                                                                go_wp2_with fail
                                                                exact ⟨_, _, FR_of _ _ _ _ _ _ _ _ _ _ _ _ _ _ _ _ _ _ _ _ _ _ _ _ _ _ _ _ _ _ _ _ _ _ _ _ _ _ _ _ _ _ _ _ _ _ _ _ _ _ _ _ _ _ _ _ _ _ _ _ _ _ _ _ _ _ _ _ _ _ _ _ _ _ _ _ _ _ _ _ _ _ _ _ _ _ _ _ _ _ _ _ _ _ _ _ _ _ _ _ _ _ _ _ _ _ _ _ _ _ _ _ _ _ _ _ _ _ _ _ _ _ _ _ _ _ _ _ _ _ _ _ _ _ _ _ _ _ _ _ _ _ _ _ _ _ _ _ _ _ _ _ _ _ _ _ _ _ _ _ _ _ _ _ _ _ _ _ _ _ _ _ _ _ _ _ _ _ _ _ _ _ _ _ _ _ _ _ _ _ _ _ _ _ _ _ _ _ _ _ _ _ _ _ _ _ _ _ _ _ _ _ _ _ _ _ _ _ _ _ _ _ _ _ _ _ _ _, rfl, rfl, rfl, rfl, hA⟩
                                                              | true =>
                                                                obtain ⟨lc, hlc⟩ : ∃ lc, decide ((78 : UInt8) ∈ l) = lc := ⟨_, rfl⟩
                                                                have hL : Hid (∀ w, Calls Try.prog 68 #[.string ⟨l.toArray⟩, .int .u8 78] w (Ret (.bool lc) w)) := Lib.hid (fun w => by have := hLet.out 78 w; rw [hlc] at this; exact this)
                                                                replace hlc := Lib.hid hlc
                                                                go_wp2_with fail
                                                                refine (hL.out _).mono ?_
                                                                rintro en w3 ⟨rfl, hu3⟩
                                                                replace hA := hA.next hu3
                                                                clear hu3 hL y0 y1 y2 y3 y4 y5 y6 y7 y8 y9 y10 y11 y12 y13
                                                                obtain ⟨y0, y1, y2, y3, y4, y5, y6, y7, y8, y9, y10, y11, y12, y13⟩ := hY.out _ hA
                                                                cases lc with
                                                                | true =>
                                                                  go_wp2_with fail
                                                                  exact ⟨_, _, FR_of _ _ _ _ _ _ _ _ _ _ _ _ _ _ _ _ _ _ _ _ _ _ _ _ _ _ _ _ _ _ _ _ _ _ _ _ _ _ _ _ _ _ _ _ _ _ _ _ _ _ _ _ _ _ _ _ _ _ _ _ _ _ _ _ _ _ _ _ _ _ _ _ _ _ _ _ _ _ _ _ _ _ _ _ _ _ _ _ _ _ _ _ _ _ _ _ _ _ _ _ _ _ _ _ _ _ _ _ _ _ _ _ _ _ _ _ _ _ _ _ _ _ _ _ _ _ _ _ _ _ _ _ _ _ _ _ _ _ _ _ _ _ _ _ _ _ _ _ _ _ _ _ _ _ _ _ _ _ _ _ _ _ _ _ _ _ _ _ _ _ _ _ _ _ _ _ _ _ _ _ _ _ _ _ _ _ _ _ _ _ _ _ _ _ _ _ _ _ _ _ _ _ _ _ _ _ _ _ _ _ _ _ _ _ _ _ _ _ _ _ _ _ _ _ _ _ _ _, rfl, rfl, rfl, by rw [hlc.out]; rfl, hA⟩
                                                                | false =>
                                                                  go_wp2_with fail
                                                                  exact ⟨_, _, FR_of _ _ _ _ _ _ _ _ _ _ _ _ _ _ _ _ _ _ _ _ _ _ _ _ _ _ _ _ _ _ _ _ _ _ _ _ _ _ _ _ _ _ _ _ _ _ _ _ _ _ _ _ _ _ _ _ _ _ _ _ _ _ _ _ _ _ _ _ _ _ _ _ _ _ _ _ _ _ _ _ _ _ _ _ _ _ _ _ _ _ _ _ _ _ _ _ _ _ _ _ _ _ _ _ _ _ _ _ _ _ _ _ _ _ _ _ _ _ _ _ _ _ _ _ _ _ _ _ _ _ _ _ _ _ _ _ _ _ _ _ _ _ _ _ _ _ _ _ _ _ _ _ _ _ _ _ _ _ _ _ _ _ _ _ _ _ _ _ _ _ _ _ _ _ _ _ _ _ _ _ _ _ _ _ _ _ _ _ _ _ _ _ _ _ _ _ _ _ _ _ _ _ _ _ _ _ _ _ _ _ _ _ _ _ _ _ _ _ _ _ _ _ _ _ _ _ _ _, rfl, rfl, rfl, by rw [hlc.out]; rfl, hA⟩
                                                            · skip
                                                              clear hA y0 y1 y2 y3 y4 y5 y6 y7 y8 y9 y10 y11 y12 y13
                                                              rintro _ w2 ⟨u, x, rfl, h1, h3, hx, hE9, hA⟩
                                                              obtain ⟨y0, y1, y2, y3, y4, y5, y6, y7, y8, y9, y10, y11, y12, y13⟩ := hY.out _ hA
                                                              unfold FR
                                                              rw [h1, h3, hx]
                                                              clear h1 h3 hx
                                                              simp only [List.drop_succ_cons, List.drop_zero]
                                                              replace hE9 := Lib.hid hE9
                                                              refine wpList_cut 10 (fun a' w' => ∃ (u : Nat → Value) (z : Bool), a' = FR u ∧ u 1 = .pointer (some ⟨w.heap.size, 0, none⟩) ∧ u 3 = .string ⟨l.toArray⟩ ∧ u 219 = .bool z ∧ z = (x && (decide ((76 : UInt8) ∈ l) || ((parts.length : Int) == 0))) ∧ BxOf C w w') ?_ ?_
                                                              · skip
                                                                simp only [List.take_succ_cons, List.take_zero]
                                                                cases x with
                                                                | false =>
                                                                  go_wp2_with fail
                                                                  exact ⟨_, _, FR_of _ _ _ _ _ _ _ _ _ _ _ _ _ _ _ _ _ _ _ _ _ _ _ _ _ _ _ _ _ _ _ _ _ _ _ _ _ _ _ _ _ _ _ _ _ _ _ _ _ _ _ _ _ _ _ _ _ _ _ _ _ _ _ _ _ _ _ _ _ _ _ _ _ _ _ _ _ _ _ _ _ _ _ _ _ _ _ _ _ _ _ _ _ _ _ _ _ _ _ _ _ _ _ _ _ _ _ _ _ _ _ _ _ _ _ _ _ _ _ _ _ _ _ _ _ _ _ _ _ _ _ _ _ _ _ _ _ _ _ _ _ _ _ _ _ _ _ _ _ _ _ _ _ _ _ _ _ _ _ _ _ _ _ _ _ _ _ _ _ _ _ _ _ _ _ _ _ _ _ _ _ _ _ _ _ _ _ _ _ _ _ _ _ _ _ _ _ _ _ _ _ _ _ _ _ _ _ _ _ _ _ _ _ _ _ _ _ _ _ _ _ _ _ _ _ _ _ _, rfl, rfl, rfl, rfl, hA⟩
                                                                | true =>
                                                                  obtain ⟨lc, hlc⟩ : ∃ lc, decide ((76 : UInt8) ∈ l) = lc := ⟨_, rfl⟩
                                                                  have hL : Hid (∀ w, Calls Try.prog 68 #[.string ⟨l.toArray⟩, .int .u8 76] w (Ret (.bool lc) w)) := Lib.hid (fun w => by have := hLet.out 76 w; rw [hlc] at this; exact this)
                                                                  replace hlc := Lib.hid hlc
                                                                  go_wp2_with fail
                                                                  refine (hL.out _).mono ?_
                                                                  rintro en w3 ⟨rfl, hu3⟩
                                                                  replace hA := hA.next hu3
                                                                  clear hu3 hL y0 y1 y2 y3 y4 y5 y6 y7 y8 y9 y10 y11 y12 y13
                                                                  obtain ⟨y0, y1, y2, y3, y4, y5, y6, y7, y8, y9, y10, y11, y12, y13⟩ := hY.out _ hA
                                                                  cases lc with
                                                                  | true =>
                                                                    go_wp2_with fail
                                                                    exact ⟨_, _, FR_of _ _ _ _ _ _ _ _ _ _ _ _ _ _ _ _ _ _ _ _ _ _ _ _ _ _ _ _ _ _ _ _ _ _ _ _ _ _ _ _ _ _ _ _ _ _ _ _ _ _ _ _ _ _ _ _ _ _ _ _ _ _ _ _ _ _ _ _ _ _ _ _ _ _ _ _ _ _ _ _ _ _ _ _ _ _ _ _ _ _ _ _ _ _ _ _ _ _ _ _ _ _ _ _ _ _ _ _ _ _ _ _ _ _ _ _ _ _ _ _ _ _ _ _ _ _ _ _ _ _ _ _ _ _ _ _ _ _ _ _ _ _ _ _ _ _ _ _ _ _ _ _ _ _ _ _ _ _ _ _ _ _ _ _ _ _ _ _ _ _ _ _ _ _ _ _ _ _ _ _ _ _ _ _ _ _ _ _ _ _ _ _ _ _ _ _ _ _ _ _ _ _ _ _ _ _ _ _ _ _ _ _ _ _ _ _ _ _ _ _ _ _ _ _ _ _ _ _, rfl, rfl, rfl, by rw [hlc.out]; rfl, hA⟩
                                                                  | false =>
                                                                    go_wp2_with fail
                                                                    exact ⟨_, _, FR_of _ _ _ _ _ _ _ _ _ _ _ _ _ _ _ _ _ _ _ _ _ _ _ _ _ _ _ _ _ _ _ _ _ _ _ _ _ _ _ _ _ _ _ _ _ _ _ _ _ _ _ _ _ _ _ _ _ _ _ _ _ _ _ _ _ _ _ _ _ _ _ _ _ _ _ _ _ _ _ _ _ _ _ _ _ _ _ _ _ _ _ _ _ _ _ _ _ _ _ _ _ _ _ _ _ _ _ _ _ _ _ _ _ _ _ _ _ _ _ _ _ _ _ _ _ _ _ _ _ _ _ _ _ _ _ _ _ _ _ _ _ _ _ _ _ _ _ _ _ _ _ _ _ _ _ _ _ _ _ _ _ _ _ _ _ _ _ _ _ _ _ _ _ _ _ _ _ _ _ _ _ _ _ _ _ _ _ _ _ _ _ _ _ _ _ _ _ _ _ _ _ _ _ _ _ _ _ _ _ _ _ _ _ _ _ _ _ _ _ _ _ _ _ _ _ _ _ _, rfl, rfl, rfl, by rw [hlc.out]; rfl, hA⟩
                                                              · skip
                                                                clear hA y0 y1 y2 y3 y4 y5 y6 y7 y8 y9 y10 y11 y12 y13
                                                                rintro _ w2 ⟨u, x, rfl, h1, h3, hx, hE10, hA⟩
                                                                obtain ⟨y0, y1, y2, y3, y4, y5, y6, y7, y8, y9, y10, y11, y12, y13⟩ := hY.out _ hA
                                                                unfold FR
                                                                rw [h1, h3, hx]
                                                                clear h1 h3 hx
                                                                simp only [List.drop_succ_cons, List.drop_zero]
                                                                replace hE10 := Lib.hid hE10
                                                                refine wpList_cut 9 (fun a' w' => ∃ (u : Nat → Value) (z : Bool), a' = FR u ∧ u 1 = .pointer (some ⟨w.heap.size, 0, none⟩) ∧ u 3 = .string ⟨l.toArray⟩ ∧ u 2 = .bool z ∧ z = (x && (decide ((88 : UInt8) ∈ l) || decide (body = []))) ∧ BxOf C w w') ?_ ?_
                                                                · skip
                                                                  simp only [List.take_succ_cons, List.take_zero]
                                                                  cases x with
                                                                  | false =>
                                                                    go_wp2_with fail
                                                                    exact ⟨_, _, FR_of _ _ _ _ _ _ _ _ _ _ _ _ _ _ _ _ _ _ _ _ _ _ _ _ _ _ _ _ _ _ _ _ _ _ _ _ _ _ _ _ _ _ _ _ _ _ _ _ _ _ _ _ _ _ _ _ _ _ _ _ _ _ _ _ _ _ _ _ _ _ _ _ _ _ _ _ _ _ _ _ _ _ _ _ _ _ _ _ _ _ _ _ _ _ _ _ _ _ _ _ _ _ _ _ _ _ _ _ _ _ _ _ _ _ _ _ _ _ _ _ _ _ _ _ _ _ _ _ _ _ _ _ _ _ _ _ _ _ _ _ _ _ _ _ _ _ _ _ _ _ _ _ _ _ _ _ _ _ _ _ _ _ _ _ _ _ _ _ _ _ _ _ _ _ _ _ _ _ _ _ _ _ _ _ _ _ _ _ _ _ _ _ _ _ _ _ _ _ _ _ _ _ _ _ _ _ _ _ _ _ _ _ _ _ _ _ _ _ _ _ _ _ _ _ _ _ _ _, rfl, rfl, rfl, rfl, hA⟩
                                                                  | true =>
                                                                    obtain ⟨lc, hlc⟩ : ∃ lc, decide ((88 : UInt8) ∈ l) = lc := ⟨_, rfl⟩
                                                                    have hL : Hid (∀ w, Calls Try.prog 68 #[.string ⟨l.toArray⟩, .int .u8 88] w (Ret (.bool lc) w)) := Lib.hid (fun w => by have := hLet.out 88 w; rw [hlc] at this; exact this)
                                                                    replace hlc := Lib.hid hlc
                                                                    go_wp2_with fail
                                                                    refine (hL.out _).mono ?_
                                                                    rintro en w3 ⟨rfl, hu3⟩
                                                                    replace hA := hA.next hu3
                                                                    clear hu3 hL y0 y1 y2 y3 y4 y5 y6 y7 y8 y9 y10 y11 y12 y13
                                                                    obtain ⟨y0, y1, y2, y3, y4, y5, y6, y7, y8, y9, y10, y11, y12, y13⟩ := hY.out _ hA
                                                                    cases lc with
                                                                    | true =>
                                                                      go_wp2_with fail
                                                                      exact ⟨_, _, FR_of _ _ _ _ _ _ _ _ _ _ _ _ _ _ _ _ _ _ _ _ _ _ _ _ _ _ _ _ _ _ _ _ _ _ _ _ _ _ _ _ _ _ _ _ _ _ _ _ _ _ _ _ _ _ _ _ _ _ _ _ _ _ _ _ _ _ _ _ _ _ _ _ _ _ _ _ _ _ _ _ _ _ _ _ _ _ _ _ _ _ _ _ _ _ _ _ _ _ _ _ _ _ _ _ _ _ _ _ _ _ _ _ _ _ _ _ _ _ _ _ _ _ _ _ _ _ _ _ _ _ _ _ _ _ _ _ _ _ _ _ _ _ _ _ _ _ _ _ _ _ _ _ _ _ _ _ _ _ _ _ _ _ _ _ _ _ _ _ _ _ _ _ _ _ _ _ _ _ _ _ _ _ _ _ _ _ _ _ _ _ _ _ _ _ _ _ _ _ _ _ _ _ _ _ _ _ _ _ _ _ _ _ _ _ _ _ _ _ _ _ _ _ _ _ _ _ _ _, rfl, rfl, rfl, by rw [hlc.out]; rfl, hA⟩
                                                                    | false =>
                                                                      go_wp2_with fail
                                                                      exact ⟨_, _, FR_of _ _ _ _ _ _ _ _ _ _ _ _ _ _ _ _ _ _ _ _ _ _ _ _ _ _ _ _ _ _ _ _ _ _ _ _ _ _ _ _ _ _ _ _ _ _ _ _ _ _ _ _ _ _ _ _ _ _ _ _ _ _ _ _ _ _ _ _ _ _ _ _ _ _ _ _ _ _ _ _ _ _ _ _ _ _ _ _ _ _ _ _ _ _ _ _ _ _ _ _ _ _ _ _ _ _ _ _ _ _ _ _ _ _ _ _ _ _ _ _ _ _ _ _ _ _ _ _ _ _ _ _ _ _ _ _ _ _ _ _ _ _ _ _ _ _ _ _ _ _ _ _ _ _ _ _ _ _ _ _ _ _ _ _ _ _ _ _ _ _ _ _ _ _ _ _ _ _ _ _ _ _ _ _ _ _ _ _ _ _ _ _ _ _ _ _ _ _ _ _ _ _ _ _ _ _ _ _ _ _ _ _ _ _ _ _ _ _ _ _ _ _ _ _ _ _ _ _, rfl, rfl, rfl, by rw [hlc.out]; simp [str_eq0, isEmpty_dec], hA⟩
                                                                · skip
                                                                  clear hA y0 y1 y2 y3 y4 y5 y6 y7 y8 y9 y10 y11 y12 y13
                                                                  rintro _ w2 ⟨u, x, rfl, h1, h3, hx, hE11, hA⟩
                                                                  obtain ⟨y0, y1, y2, y3, y4, y5, y6, y7, y8, y9, y10, y11, y12, y13⟩ := hY.out _ hA
                                                                  unfold FR
                                                                  rw [h1, h3, hx]
                                                                  clear h1 h3 hx
                                                                  simp only [List.drop_succ_cons, List.drop_zero]
                                                                  have hX : x = (((((((((((decide ((83 : UInt8) ∈ l) || (session == 0)) && (decide ((66 : UInt8) ∈ l) || decide (bucket = []))) && (decide ((79 : UInt8) ∈ l) || decide (object = []))) && (decide ((86 : UInt8) ∈ l) || decide (version = []))) && (decide ((80 : UInt8) ∈ l) || decide (pre = []))) && (decide ((68 : UInt8) ∈ l) || decide (delim = []))) && (decide ((67 : UInt8) ∈ l) || (decide (ck = 0) && (decide (re = 0) && decide (im = 0))))) && (decide ((73 : UInt8) ∈ l) || (id == 0))) && (decide ((78 : UInt8) ∈ l) || (n == 0))) && (decide ((76 : UInt8) ∈ l) || ((parts.length : Int) == 0))) && (decide ((88 : UInt8) ∈ l) || decide (body = []))) := by rw [hE11, hE10.out, hE9.out, hE8.out, hE7.out, hE6.out, hE5.out, hE4.out, hE3.out, hE2.out, hE1.out]
                                                                  have hc11 := cond11 ⟨kind, session, bucket, object, version, pre, delim, body, ck, re, im, id, n, parts⟩ l
                                                                  simp only at hc11
                                                                  rw [← hX, hq.out] at hc11
                                                                  subst hc11
                                                                  go_wp2_with fail
                                                                  go_ret
                                                                  exact ⟨rfl, hA.upd⟩
theorem rCheck (q : Rq) (pv : Value) (w : World) (hP : Ints w pv q.parts) (hs : smallQ q) : Calls Try.prog 14 #[rqV q pv] w (Ret (.int .i64 (ckQ q)) w) := by
  have hR := Lib.hid (fun w' (hu : Upd Non w w') => rRight q pv w' (hP.non hu) hs)
  have hck : Hid (ckQ q = if rightQ q then 0 else 4) := Lib.hid rfl
  generalize ckQ q = c at *
  unfold rqV rqC at *
  by_cases h : rightQ q
  all_goals
    first | rw [if_pos h] at hck | rw [if_neg h] at hck
    first | rw [decide_eq_true h] at hR | rw [decide_eq_false h] at hR
    obtain rfl := hck.out
    obtain ⟨pa, pc, rfl, -⟩ := has1 hP
    clear hP hs h hck
    go_enter Try.func14, Try.ntmps14
    go_wp2_with fail
    refine (hR.out _ (Upd.alloc _ _ _)).mono ?_
    rintro en w1 ⟨rfl, hu⟩
    have hU := (Upd.alloc Non w _).trans hu fun _ _ h => h
    go_wp2_with fail
    go_ret
    exact ⟨rfl, hU⟩
end Go.Proofs.Ytogekobpjjmnjaa
