/- The reference: text, put, Bytes. -/
import Derived.Test.YtogekobpjjmnjaaMWrJ
import Derived.Test.YtogekobpjjmnjaaMWrI
namespace Go.Proofs.Ytogekobpjjmnjaa
open Go.RowKit Go.Amb
set_option linter.unusedVariables false
set_option linter.unusedSimpArgs false
set_option maxRecDepth 100000
attribute [local go_sem ↓] Go.wp_at_zero Go.wp_at_succ
theorem rText (s : List UInt8) (m : Nat) (w : World) (hs : s.length ≤ 140737488355328) (hm : m ≤ 8) :
    Calls Try.prog 70 #[.string ⟨s.toArray⟩, .int .i64 (m : Int)] w (Ret (.string ⟨(txtF s m).toArray⟩) w) := by
  go_enter Try.func70, Try.ntmps70
  go_wp2_with fail
  refine (refField _ m w (by omega) (by omega) hm).mono ?_
  rintro e w1 ⟨rfl, hu⟩
  have hl : (fld s.length m).length + s.length ≤ 9223372036854775807 := by rw [fld_length]; omega
  go_wp2_with fail
  go_ret
  exact ⟨congrArg (fun b => Ending.returned (.string b)) (ByteArray.mk_append_mk _ _), hu⟩
theorem str_snoc {l : List UInt8} {pF : UInt8 → List UInt8} {k : Nat} {c : UInt8} {x : List UInt8} (a : List UInt8) (hlt : k < l.length) (hc : l[k] = c) (hx : pF c = x) :
    Value.string ((⟨(a ++ (l.take k).flatMap pF).toArray⟩ : ByteArray) ++ ⟨x.toArray⟩) = .string ⟨(a ++ (l.take (k + 1)).flatMap pF).toArray⟩ := by
  rw [List.take_add_one, List.getElem?_eq_getElem hlt, Option.toList_some, List.flatMap_append, hc, List.flatMap_cons, List.flatMap_nil, List.append_nil, hx]
  rw [ByteArray.mk_append_mk, List.append_assoc]
set_option maxHeartbeats 4000000 in
theorem rPut (q : Rq) (pv : Value) (w : World) (hP : Ints w pv q.parts) (hpb : ∀ k, At pv k → k < w.heap.size) (hR : fitsQ q) (hid : -9223372036854775808 ≤ q.id ∧ q.id ≤ 9223372036854775807) : Calls Try.prog 26 #[rqV q pv] w (Ret (.string ⟨(putQ q).toArray⟩) w) := by
  have hx := Lib.hid hP
  obtain ⟨pa, pc, rfl, hlc, hcm, hcell⟩ := has1 hP
  have hY : Hid (∀ w', BxOf (rqC q (.slice pa q.parts.length pc)) w w' → w'.cell? ⟨w.heap.size, 0, none⟩ = some (.int .i64 q.kind) ∧ w'.cell? ⟨w.heap.size, 1, none⟩ = some (.int .i64 q.session) ∧ w'.cell? ⟨w.heap.size, 2, none⟩ = some (.string ⟨q.bucket.toArray⟩) ∧ w'.cell? ⟨w.heap.size, 3, none⟩ = some (.string ⟨q.object.toArray⟩) ∧ w'.cell? ⟨w.heap.size, 4, none⟩ = some (.string ⟨q.version.toArray⟩) ∧ w'.cell? ⟨w.heap.size, 5, none⟩ = some (.string ⟨q.pre.toArray⟩) ∧ w'.cell? ⟨w.heap.size, 6, none⟩ = some (.string ⟨q.delim.toArray⟩) ∧ w'.cell? ⟨w.heap.size, 7, none⟩ = some (.string ⟨q.body.toArray⟩) ∧ w'.cell? ⟨w.heap.size, 8, none⟩ = some (.int .i64 q.ck) ∧ w'.cell? ⟨w.heap.size, 9, none⟩ = some (.int .i64 q.re) ∧ w'.cell? ⟨w.heap.size, 10, none⟩ = some (.int .i64 q.im) ∧ w'.cell? ⟨w.heap.size, 11, none⟩ = some (.int .i64 q.id) ∧ w'.cell? ⟨w.heap.size, 12, none⟩ = some (.int .i64 q.n) ∧ w'.cell? ⟨w.heap.size, 13, none⟩ = some (.slice pa q.parts.length pc)) := Lib.hid (fun w' h => cells14 h.1)
  have hst : BxOf (rqC q (.slice pa q.parts.length pc)) w (w.alloc (.cells (rqC q (.slice pa q.parts.length pc)) 30)) := BxOf.start (Upd.refl _ _)
  have hF := Lib.hid (fun w => rFields q.kind w)
  have hin := Lib.hid (lets_in q.kind)
  have hsh := lets_short q.kind
  have hfl := Lib.hid (fun l => flat_len hR l)
  have hpq : Hid (putQ q = fld q.kind 1 ++ (lets q.kind).flatMap (putF q)) := Lib.hid rfl
  obtain ⟨hk, hse, hnn, hck, htag, -, hpl, hbl, ⟨l1, l2, l3, l4, l5⟩, hpp⟩ := hR
  generalize putQ q = pq at *
  generalize lets q.kind = l at *
  unfold rqV
  obtain ⟨pF, hpF⟩ : ∃ pF, pF = putF q := ⟨_, rfl⟩
  rw [← hpF] at hfl hpq
  replace hpF := Lib.hid hpF
  obtain ⟨kind, session, bucket, object, version, pre, delim, body, ck, re, im, id, n, parts⟩ := q
  unfold rqC at *
  dsimp only at *
  clear hP
  obtain ⟨y0, y1, y2, y3, y4, y5, y6, y7, y8, y9, y10, y11, y12, y13⟩ := hY.out _ hst
  go_enter Try.func26, Try.ntmps26
  go_wp2_with fail
  refine (refField kind 1 _ (by omega) (by omega) (by omega)).mono ?_
  rintro en w1 ⟨rfl, hu⟩
  have hA := hst.next hu
  clear hu hst y0 y1 y2 y3 y4 y5 y6 y7 y8 y9 y10 y11 y12 y13
  obtain ⟨y0, y1, y2, y3, y4, y5, y6, y7, y8, y9, y10, y11, y12, y13⟩ := hY.out _ hA
  go_wp2_with fail
  refine (hF.out _).mono ?_
  rintro en w2 ⟨rfl, hu⟩
  have hA2 := hA.next hu
  clear hA hu y0 y1 y2 y3 y4 y5 y6 y7 y8 y9 y10 y11 y12 y13
  go_wp2_with fail
  go_loopw [3, 5] (fun sv iv wr => ∃ k : Nat, iv = .int .i64 (k : Int) ∧ k ≤ l.length ∧ sv = .string ⟨(fld kind 1 ++ (l.take k).flatMap pF).toArray⟩ ∧ BxOf #[.int .i64 kind, .int .i64 session, .string ⟨bucket.toArray⟩, .string ⟨object.toArray⟩, .string ⟨version.toArray⟩, .string ⟨pre.toArray⟩, .string ⟨delim.toArray⟩, .string ⟨body.toArray⟩, .int .i64 ck, .int .i64 re, .int .i64 im, .int .i64 id, .int .i64 n, .slice pa parts.length pc] w wr) (fun _ iv _ => l.length - (intOf iv).toNat)
  case atStart => exact ⟨0, rfl, Nat.zero_le _, by rw [List.take_zero, List.flatMap_nil, List.append_nil], hA2⟩
  case round =>
    clear hA2
    obtain ⟨k, rfl, hkl, rfl, hA⟩ := hrel
    obtain ⟨y0, y1, y2, y3, y4, y5, y6, y7, y8, y9, y10, y11, y12, y13⟩ := hY.out _ hA
    by_cases hlt : k < l.length
    · have hltI : (k : Int) < (l.length : Int) := by omega
      have hk0 : (0 : Int) ≤ (k : Int) := by omega
      have s1 : k < (⟨l.toArray⟩ : ByteArray).size := by show k < l.toArray.size; simpa using hlt
      have hacc := hfl.out (l.take k)
      rw [List.length_take, Nat.min_eq_left (by omega)] at hacc
      replace hacc : (fld kind 1 ++ (l.take k).flatMap pF).length ≤ 1000000 := by rw [List.length_append, fld_length]; omega
      have hsn : Hid (∀ x, pF l[k] = x → Value.string ((⟨(fld kind 1 ++ (l.take k).flatMap pF).toArray⟩ : ByteArray) ++ ⟨x.toArray⟩) = .string ⟨(fld kind 1 ++ (l.take (k + 1)).flatMap pF).toArray⟩) := Lib.hid (fun x hx => str_snoc _ hlt rfl hx)
      have hc : l[k] ∈ lets11 := hin.out _ (List.getElem_mem hlt)
      have hn : ((⟨l.toArray⟩ : ByteArray)[k]'s1) = l[k] := by show l.toArray[k]'_ = _; simp
      generalize hch : l[k] = c at *
      generalize fld kind 1 ++ (l.take k).flatMap pF = acc at *
      simp only [lets11, List.mem_cons, List.not_mem_nil, or_false] at hc
      rcases hc with rfl | rfl | rfl | rfl | rfl | rfl | rfl | rfl | rfl | rfl | rfl
      · have hn2 : (((⟨l.toArray⟩ : ByteArray)[k]'s1).toNat : Int) = 83 := by rw [hn]; rfl
        have hg := hsn.out (fld session 1) (by rw [hpF.out]; rfl)
        have hlx : acc.length + (fld session 1).length ≤ 9223372036854775807 := by (try unfold txtF); simp only [List.length_append, fld_length]; omega
        go_wp2_with fail
        refine (refField session 1 _ (by omega) (by omega) (by omega)).mono ?_
        rintro en w1 ⟨rfl, hu1⟩
        have hb := (hA.next hu1)
        clear hu1 hA y0 y1 y2 y3 y4 y5 y6 y7 y8 y9 y10 y11 y12 y13
        go_wp2_with fail
        go_roundw
        case rel => exact ⟨k + 1, by go_num, by omega, rfl, hb⟩
        case measure => simp [intOf]; omega
      · have hn2 : (((⟨l.toArray⟩ : ByteArray)[k]'s1).toNat : Int) = 66 := by rw [hn]; rfl
        have hg := hsn.out (txtF bucket 1) (by rw [hpF.out]; rfl)
        have hlx : acc.length + (txtF bucket 1).length ≤ 9223372036854775807 := by (try unfold txtF); simp only [List.length_append, fld_length]; omega
        go_wp2_with fail
        refine (rText bucket 1 _ (by omega) (by omega)).mono ?_
        rintro en w1 ⟨rfl, hu1⟩
        have hb := (hA.next hu1)
        clear hu1 hA y0 y1 y2 y3 y4 y5 y6 y7 y8 y9 y10 y11 y12 y13
        go_wp2_with fail
        go_roundw
        case rel => exact ⟨k + 1, by go_num, by omega, rfl, hb⟩
        case measure => simp [intOf]; omega
      · have hn2 : (((⟨l.toArray⟩ : ByteArray)[k]'s1).toNat : Int) = 79 := by rw [hn]; rfl
        have hg := hsn.out (txtF object 1) (by rw [hpF.out]; rfl)
        have hlx : acc.length + (txtF object 1).length ≤ 9223372036854775807 := by (try unfold txtF); simp only [List.length_append, fld_length]; omega
        go_wp2_with fail
        refine (rText object 1 _ (by omega) (by omega)).mono ?_
        rintro en w1 ⟨rfl, hu1⟩
        have hb := (hA.next hu1)
        clear hu1 hA y0 y1 y2 y3 y4 y5 y6 y7 y8 y9 y10 y11 y12 y13
        go_wp2_with fail
        go_roundw
        case rel => exact ⟨k + 1, by go_num, by omega, rfl, hb⟩
        case measure => simp [intOf]; omega
      · have hn2 : (((⟨l.toArray⟩ : ByteArray)[k]'s1).toNat : Int) = 86 := by rw [hn]; rfl
        have hg := hsn.out (txtF version 1) (by rw [hpF.out]; rfl)
        have hlx : acc.length + (txtF version 1).length ≤ 9223372036854775807 := by (try unfold txtF); simp only [List.length_append, fld_length]; omega
        go_wp2_with fail
        refine (rText version 1 _ (by omega) (by omega)).mono ?_
        rintro en w1 ⟨rfl, hu1⟩
        have hb := (hA.next hu1)
        clear hu1 hA y0 y1 y2 y3 y4 y5 y6 y7 y8 y9 y10 y11 y12 y13
        go_wp2_with fail
        go_roundw
        case rel => exact ⟨k + 1, by go_num, by omega, rfl, hb⟩
        case measure => simp [intOf]; omega
      · have hn2 : (((⟨l.toArray⟩ : ByteArray)[k]'s1).toNat : Int) = 80 := by rw [hn]; rfl
        have hg := hsn.out (txtF pre 1) (by rw [hpF.out]; rfl)
        have hlx : acc.length + (txtF pre 1).length ≤ 9223372036854775807 := by (try unfold txtF); simp only [List.length_append, fld_length]; omega
        go_wp2_with fail
        refine (rText pre 1 _ (by omega) (by omega)).mono ?_
        rintro en w1 ⟨rfl, hu1⟩
        have hb := (hA.next hu1)
        clear hu1 hA y0 y1 y2 y3 y4 y5 y6 y7 y8 y9 y10 y11 y12 y13
        go_wp2_with fail
        go_roundw
        case rel => exact ⟨k + 1, by go_num, by omega, rfl, hb⟩
        case measure => simp [intOf]; omega
      · have hn2 : (((⟨l.toArray⟩ : ByteArray)[k]'s1).toNat : Int) = 68 := by rw [hn]; rfl
        have hg := hsn.out (txtF delim 1) (by rw [hpF.out]; rfl)
        have hlx : acc.length + (txtF delim 1).length ≤ 9223372036854775807 := by (try unfold txtF); simp only [List.length_append, fld_length]; omega
        go_wp2_with fail
        refine (rText delim 1 _ (by omega) (by omega)).mono ?_
        rintro en w1 ⟨rfl, hu1⟩
        have hb := (hA.next hu1)
        clear hu1 hA y0 y1 y2 y3 y4 y5 y6 y7 y8 y9 y10 y11 y12 y13
        go_wp2_with fail
        go_roundw
        case rel => exact ⟨k + 1, by go_num, by omega, rfl, hb⟩
        case measure => simp [intOf]; omega
      · have hn2 : (((⟨l.toArray⟩ : ByteArray)[k]'s1).toNat : Int) = 67 := by rw [hn]; rfl
        have hlx : acc.length + (fld ck 1).length ≤ 9223372036854775807 := by rw [fld_length]; omega
        have hckI : -9223372036854775808 ≤ ck ∧ ck ≤ 9223372036854775807 := by omega
        go_wp2_with fail
        refine (refField ck 1 _ hckI.1 hckI.2 (by omega)).mono ?_
        rintro en w3 ⟨rfl, hu3⟩
        have hA3 := hA.next hu3
        clear hu3 hA y0 y1 y2 y3 y4 y5 y6 y7 y8 y9 y10 y11 y12 y13
        obtain ⟨y0, y1, y2, y3, y4, y5, y6, y7, y8, y9, y10, y11, y12, y13⟩ := hY.out _ hA3
        by_cases hk2 : ck = 2
        · subst hk2
          have hre := htag.1
          have hre2 := htag.2.1
          have him := htag.2.2.1
          have him2 := htag.2.2.2
          have hlx1 : (9223372036854775807 < acc.length + (fld 2 1).length + (fld re 4).length) = False := eq_false (by rw [fld_length, fld_length]; omega)
          have hlx2 : (9223372036854775807 < acc.length + (fld 2 1).length + (fld re 4).length + (fld im 4).length) = False := eq_false (by rw [fld_length, fld_length, fld_length]; omega)
          have hg3 : Value.string ((⟨acc.toArray⟩ : ByteArray) ++ ⟨(fld 2 1).toArray⟩ ++ ⟨(fld re 4).toArray⟩ ++ ⟨(fld im 4).toArray⟩) = .string ⟨(fld kind 1 ++ (l.take (k + 1)).flatMap pF).toArray⟩ := by
            have := hsn.out (fld 2 1 ++ (fld re 4 ++ fld im 4)) (by rw [hpF.out]; rfl)
            rw [← this, ByteArray.mk_append_mk, ByteArray.mk_append_mk, ByteArray.mk_append_mk, ByteArray.mk_append_mk]
            simp
          have cre : Hid (∀ w, Calls Try.prog 69 #[.int .i64 re, .int .i64 4] w (Ret (.string ⟨(fld re 4).toArray⟩) w)) := Lib.hid (fun w => refField re 4 w (by omega) (by omega) (by omega))
          have cim : Hid (∀ w, Calls Try.prog 69 #[.int .i64 im, .int .i64 4] w (Ret (.string ⟨(fld im 4).toArray⟩) w)) := Lib.hid (fun w => refField im 4 w (by omega) (by omega) (by omega))
          have d9 := (Upd.drew Non w3).cell y9 fun h => h
          have d10 := (Upd.drew Non w3).cell y10 fun h => h
          go_wp2_with fail
          refine wp_region_held_drew (S := (fun w' => w'.cell? ⟨w.heap.size, 9, none⟩ = some (.int .i64 re) ∧ w'.cell? ⟨w.heap.size, 10, none⟩ = some (.int .i64 im))) (by kernel_rfl) (by (try dsimp only); first | exact ⟨m1, m2⟩ | exact ⟨k1, k2⟩ | exact ⟨d9, d10⟩) (fun hHeld => ?_)
          (refine wpAnyH_take (i := 0) (oi := ?oi_1_0) (v := ?v_1_0) ?ho_1_0 ?hs_1_0 ?hf_1_0 ?hr_1_0 ?hQ_1_0 ?hy_1_0 ?hS_1_0 ?rest_1_0; (case hr_1_0 => kernel_rfl); (case hf_1_0 => kernel_rfl); (case hs_1_0 => kernel_rfl); (case ho_1_0 => (simp only [List.getElem?_toArray, List.getElem?_cons_succ, List.getElem?_cons_zero]; rfl)); (case hS_1_0 => assumption); (case hQ_1_0 => exact fun _ _ _ h => h); (case hy_1_0 => (refine Or.inl ⟨by rfl, ?_⟩; (intro w hSw; (try dsimp only at hSw); go_simp) <;> with_reducible rfl)); (try simp only [Act.put, List.setIfInBounds_toArray, List.set_cons_zero, List.set_cons_succ]))
          (refine wpAnyH_take (i := 1) (oi := ?oi_1_1) (v := ?v_1_1) ?ho_1_1 ?hs_1_1 ?hf_1_1 ?hr_1_1 ?hQ_1_1 ?hy_1_1 ?hS_1_1 ?rest_1_1; (case hr_1_1 => kernel_rfl); (case hf_1_1 => kernel_rfl); (case hs_1_1 => kernel_rfl); (case ho_1_1 => (simp only [List.getElem?_toArray, List.getElem?_cons_succ, List.getElem?_cons_zero]; rfl)); (case hS_1_1 => assumption); (case hQ_1_1 => exact fun _ _ _ h => h); (case hy_1_1 => (refine Or.inl ⟨by rfl, ?_⟩; (intro w hSw; (try dsimp only at hSw); go_simp) <;> with_reducible rfl)); (try simp only [Act.put, List.setIfInBounds_toArray, List.set_cons_zero, List.set_cons_succ]))
          (refine wpAnyH_take (i := 2) (oi := ?oi_1_2) (v := ?v_1_2) ?ho_1_2 ?hs_1_2 ?hf_1_2 ?hr_1_2 ?hQ_1_2 ?hy_1_2 ?hS_1_2 ?rest_1_2; (case hr_1_2 => kernel_rfl); (case hf_1_2 => kernel_rfl); (case hs_1_2 => kernel_rfl); (case ho_1_2 => (simp only [List.getElem?_toArray, List.getElem?_cons_succ, List.getElem?_cons_zero]; rfl)); (case hS_1_2 => assumption); (case hQ_1_2 => exact fun _ _ _ h => h); (case hy_1_2 => (refine Or.inl ⟨by rfl, ?_⟩; (intro w hSw; (try dsimp only at hSw); go_simp) <;> with_reducible rfl)); (try simp only [Act.put, List.setIfInBounds_toArray, List.set_cons_zero, List.set_cons_succ]))
          (refine wpAnyH_take (i := 3) (oi := ?oi_1_3) (v := ?v_1_3) ?ho_1_3 ?hs_1_3 ?hf_1_3 ?hr_1_3 ?hQ_1_3 ?hy_1_3 ?hS_1_3 ?rest_1_3; (case hr_1_3 => kernel_rfl); (case hf_1_3 => kernel_rfl); (case hs_1_3 => kernel_rfl); (case ho_1_3 => (simp only [List.getElem?_toArray, List.getElem?_cons_succ, List.getElem?_cons_zero]; rfl)); (case hS_1_3 => assumption); (case hQ_1_3 => exact fun _ _ _ h => h); (case hy_1_3 => (refine Or.inl ⟨by rfl, ?_⟩; (intro w hSw; (try dsimp only at hSw); go_simp) <;> with_reducible rfl)); (try simp only [Act.put, List.setIfInBounds_toArray, List.set_cons_zero, List.set_cons_succ]))
          (refine wpAnyH_take (i := 4) (oi := ?oi_1_4) (v := ?v_1_4) ?ho_1_4 ?hs_1_4 ?hf_1_4 ?hr_1_4 ?hQ_1_4 ?hy_1_4 ?hS_1_4 ?rest_1_4; (case hr_1_4 => kernel_rfl); (case hf_1_4 => kernel_rfl); (case hs_1_4 => kernel_rfl); (case ho_1_4 => (simp only [List.getElem?_toArray, List.getElem?_cons_succ, List.getElem?_cons_zero]; rfl)); (case hS_1_4 => assumption); (case hQ_1_4 => exact fun _ _ _ h => h); (case hy_1_4 => (refine Or.inl ⟨by rfl, ?_⟩; (intro w hSw; (try dsimp only at hSw); go_simp) <;> with_reducible rfl)); (try simp only [Act.put, List.setIfInBounds_toArray, List.set_cons_zero, List.set_cons_succ]))
          (refine wpAnyH_take (i := 7) (oi := ?oi_1_7) (v := ?v_1_7) ?ho_1_7 ?hs_1_7 ?hf_1_7 ?hr_1_7 ?hQ_1_7 ?hy_1_7 ?hS_1_7 ?rest_1_7; (case hr_1_7 => kernel_rfl); (case hf_1_7 => kernel_rfl); (case hs_1_7 => kernel_rfl); (case ho_1_7 => (simp only [List.getElem?_toArray, List.getElem?_cons_succ, List.getElem?_cons_zero]; rfl)); (case hS_1_7 => assumption); (case hQ_1_7 => exact fun _ _ _ h => h); (case hy_1_7 => (refine Or.inl ⟨by rfl, ?_⟩; (intro w hSw; (try dsimp only at hSw); go_simp) <;> with_reducible rfl)); (try simp only [Act.put, List.setIfInBounds_toArray, List.set_cons_zero, List.set_cons_succ]))
          (refine wpAnyH_take (i := 8) (oi := ?oi_1_8) (v := ?v_1_8) ?ho_1_8 ?hs_1_8 ?hf_1_8 ?hr_1_8 ?hQ_1_8 ?hy_1_8 ?hS_1_8 ?rest_1_8; (case hr_1_8 => kernel_rfl); (case hf_1_8 => kernel_rfl); (case hs_1_8 => kernel_rfl); (case ho_1_8 => (simp only [List.getElem?_toArray, List.getElem?_cons_succ, List.getElem?_cons_zero]; rfl)); (case hS_1_8 => assumption); (case hQ_1_8 => exact fun _ _ _ h => h); (case hy_1_8 => (refine Or.inl ⟨by rfl, ?_⟩; (intro w hSw; (try dsimp only at hSw); go_simp) <;> with_reducible rfl)); (try simp only [Act.put, List.setIfInBounds_toArray, List.set_cons_zero, List.set_cons_succ]))
          (refine wpAnyH_take (i := 9) (oi := ?oi_1_9) (v := ?v_1_9) ?ho_1_9 ?hs_1_9 ?hf_1_9 ?hr_1_9 ?hQ_1_9 ?hy_1_9 ?hS_1_9 ?rest_1_9; (case hr_1_9 => kernel_rfl); (case hf_1_9 => kernel_rfl); (case hs_1_9 => kernel_rfl); (case ho_1_9 => (simp only [List.getElem?_toArray, List.getElem?_cons_succ, List.getElem?_cons_zero]; rfl)); (case hS_1_9 => assumption); (case hQ_1_9 => exact fun _ _ _ h => h); (case hy_1_9 => (refine Or.inl ⟨by rfl, ?_⟩; (intro w hSw; (try dsimp only at hSw); go_simp) <;> with_reducible rfl)); (try simp only [Act.put, List.setIfInBounds_toArray, List.set_cons_zero, List.set_cons_succ]))
          (refine wpAnyH_take (i := 10) (oi := ?oi_1_10) (v := ?v_1_10) ?ho_1_10 ?hs_1_10 ?hf_1_10 ?hr_1_10 ?hQ_1_10 ?hy_1_10 ?hS_1_10 ?rest_1_10; (case hr_1_10 => kernel_rfl); (case hf_1_10 => kernel_rfl); (case hs_1_10 => kernel_rfl); (case ho_1_10 => (simp only [List.getElem?_toArray, List.getElem?_cons_succ, List.getElem?_cons_zero]; rfl)); (case hS_1_10 => assumption); (case hQ_1_10 => exact fun _ _ _ h => h); (case hy_1_10 => (refine Or.inl ⟨by rfl, ?_⟩; (intro w hSw; (try dsimp only at hSw); go_simp) <;> with_reducible rfl)); (try simp only [Act.put, List.setIfInBounds_toArray, List.set_cons_zero, List.set_cons_succ]))
          (refine wpAnyH_ready (rs := [5]) (by kernel_rfl) (by simp) ?_; refine AllReadyH.cons (o := ?oo_1_5) ?hoo_1_5 ?hst_1_5 AllReadyH.nil; (case hoo_1_5 => (simp only [List.getElem?_toArray, List.getElem?_cons_succ, List.getElem?_cons_zero]; rfl)); intro K hK; go_simp; (first | (go_at_call 69; (with_reducible refine (cre.out _).mono ?_); rintro en w4 ⟨rfl, hu4⟩; have k1 := hu4.cell d9 (fun h => h); have k2 := hu4.cell d10 fun h => h) | (go_at_call 69; (with_reducible refine (cim.out _).mono ?_); rintro en w5 ⟨rfl, hu5⟩; have m1 := hu5.cell k1 (fun h => h); have m2 := hu5.cell k2 fun h => h)); (try go_wp2_with fail); refine hK.out _ _ (by (try dsimp only); first | exact ⟨m1, m2⟩ | exact ⟨k1, k2⟩ | exact ⟨d9, d10⟩) (fun hHeld => ?_); clear hK K; (try simp only [Act.put, List.setIfInBounds_toArray, List.set_cons_zero, List.set_cons_succ]))
          (refine wpAnyH_take (i := 6) (oi := ?oi_1_6) (v := ?v_1_6) ?ho_1_6 ?hs_1_6 ?hf_1_6 ?hr_1_6 ?hQ_1_6 ?hy_1_6 ?hS_1_6 ?rest_1_6; (case hr_1_6 => kernel_rfl); (case hf_1_6 => kernel_rfl); (case hs_1_6 => kernel_rfl); (case ho_1_6 => (simp only [List.getElem?_toArray, List.getElem?_cons_succ, List.getElem?_cons_zero]; rfl)); (case hS_1_6 => assumption); (case hQ_1_6 => exact fun _ _ _ h => h); (case hy_1_6 => (refine Or.inl ⟨by rfl, ?_⟩; (intro w hSw; (try dsimp only at hSw); go_simp) <;> with_reducible rfl)); (try simp only [Act.put, List.setIfInBounds_toArray, List.set_cons_zero, List.set_cons_succ]))
          (refine wpAnyH_ready (rs := [11]) (by kernel_rfl) (by simp) ?_; refine AllReadyH.cons (o := ?oo_1_11) ?hoo_1_11 ?hst_1_11 AllReadyH.nil; (case hoo_1_11 => (simp only [List.getElem?_toArray, List.getElem?_cons_succ, List.getElem?_cons_zero]; rfl)); intro K hK; go_simp; (first | (go_at_call 69; (with_reducible refine (cre.out _).mono ?_); rintro en w4 ⟨rfl, hu4⟩; have k1 := hu4.cell d9 (fun h => h); have k2 := hu4.cell d10 fun h => h) | (go_at_call 69; (with_reducible refine (cim.out _).mono ?_); rintro en w5 ⟨rfl, hu5⟩; have m1 := hu5.cell k1 (fun h => h); have m2 := hu5.cell k2 fun h => h)); (try go_wp2_with fail); refine hK.out _ _ (by (try dsimp only); first | exact ⟨m1, m2⟩ | exact ⟨k1, k2⟩ | exact ⟨d9, d10⟩) (fun hHeld => ?_); clear hK K; (try simp only [Act.put, List.setIfInBounds_toArray, List.set_cons_zero, List.set_cons_succ]))
          (refine wpAnyH_take (i := 12) (oi := ?oi_1_12) (v := ?v_1_12) ?ho_1_12 ?hs_1_12 ?hf_1_12 ?hr_1_12 ?hQ_1_12 ?hy_1_12 ?hS_1_12 ?rest_1_12; (case hr_1_12 => kernel_rfl); (case hf_1_12 => kernel_rfl); (case hs_1_12 => kernel_rfl); (case ho_1_12 => (simp only [List.getElem?_toArray, List.getElem?_cons_succ, List.getElem?_cons_zero]; rfl)); (case hS_1_12 => assumption); (case hQ_1_12 => exact fun _ _ _ h => h); (case hy_1_12 => (refine Or.inl ⟨by rfl, ?_⟩; (intro w hSw; (try dsimp only at hSw); go_simp) <;> with_reducible rfl)); (try simp only [Act.put, List.setIfInBounds_toArray, List.set_cons_zero, List.set_cons_succ]))
          (refine wpAnyH_take (i := 13) (oi := ?oi_1_13) (v := ?v_1_13) ?ho_1_13 ?hs_1_13 ?hf_1_13 ?hr_1_13 ?hQ_1_13 ?hy_1_13 ?hS_1_13 ?rest_1_13; (case hr_1_13 => kernel_rfl); (case hf_1_13 => kernel_rfl); (case hs_1_13 => kernel_rfl); (case ho_1_13 => (simp only [List.getElem?_toArray, List.getElem?_cons_succ, List.getElem?_cons_zero]; rfl)); (case hS_1_13 => assumption); (case hQ_1_13 => exact fun _ _ _ h => h); (case hy_1_13 => (refine Or.inl ⟨by rfl, ?_⟩; (intro w hSw; (try dsimp only at hSw); go_simp) <;> with_reducible rfl)); (try simp only [Act.put, List.setIfInBounds_toArray, List.set_cons_zero, List.set_cons_succ]))
          refine wpAnyH_done (by kernel_rfl) ?_ _
          have hb := ((hA3.next (Upd.drew Non w3)).next hu4).next hu5
          clear hu4 hu5 k1 k2 m1 m2 d9 d10 hA3 y0 y1 y2 y3 y4 y5 y6 y7 y8 y9 y10 y11 y12 y13
          go_wp2_with fail
          go_roundw
          case rel => exact ⟨k + 1, by go_num, by omega, by first | rfl | exact hg3, hb⟩
          case measure => simp [intOf]; omega
        · have hk2b : (ck == 2) = false := by simp [hk2]
          have hg3 : Value.string ((⟨acc.toArray⟩ : ByteArray) ++ ⟨(fld ck 1).toArray⟩) = .string ⟨(fld kind 1 ++ (l.take (k + 1)).flatMap pF).toArray⟩ := by
            have := hsn.out (fld ck 1 ++ []) (by rw [hpF.out]; show fld ck 1 ++ (if ck = 2 then _ else _) = _; rw [if_neg hk2])
            rw [List.append_nil] at this
            exact this
          go_wp2_with fail
          go_roundw
          case rel => exact ⟨k + 1, by go_num, by omega, by first | rfl | exact hg3, hA3⟩
          case measure => simp [intOf]; omega
      · have hn2 : (((⟨l.toArray⟩ : ByteArray)[k]'s1).toNat : Int) = 73 := by rw [hn]; rfl
        have hg := hsn.out (fld id 8) (by rw [hpF.out]; rfl)
        have hlx : acc.length + (fld id 8).length ≤ 9223372036854775807 := by (try unfold txtF); simp only [List.length_append, fld_length]; omega
        go_wp2_with fail
        refine (refField id 8 _ (by omega) (by omega) (by omega)).mono ?_
        rintro en w1 ⟨rfl, hu1⟩
        have hb := (hA.next hu1)
        clear hu1 hA y0 y1 y2 y3 y4 y5 y6 y7 y8 y9 y10 y11 y12 y13
        go_wp2_with fail
        go_roundw
        case rel => exact ⟨k + 1, by go_num, by omega, rfl, hb⟩
        case measure => simp [intOf]; omega
      · have hn2 : (((⟨l.toArray⟩ : ByteArray)[k]'s1).toNat : Int) = 78 := by rw [hn]; rfl
        have hg := hsn.out (fld n 2) (by rw [hpF.out]; rfl)
        have hlx : acc.length + (fld n 2).length ≤ 9223372036854775807 := by (try unfold txtF); simp only [List.length_append, fld_length]; omega
        go_wp2_with fail
        refine (refField n 2 _ (by omega) (by omega) (by omega)).mono ?_
        rintro en w1 ⟨rfl, hu1⟩
        have hb := (hA.next hu1)
        clear hu1 hA y0 y1 y2 y3 y4 y5 y6 y7 y8 y9 y10 y11 y12 y13
        go_wp2_with fail
        go_roundw
        case rel => exact ⟨k + 1, by go_num, by omega, rfl, hb⟩
        case measure => simp [intOf]; omega
      · have hn2 : (((⟨l.toArray⟩ : ByteArray)[k]'s1).toNat : Int) = 76 := by rw [hn]; rfl
        have hlx : acc.length + (fld (parts.length : Int) 1).length ≤ 9223372036854775807 := by rw [fld_length]; omega
        have hg3 : Value.string ⟨(acc ++ fld (parts.length : Int) 1 ++ parts.flatMap (fun p => fld p 1)).toArray⟩ = .string ⟨(fld kind 1 ++ (l.take (k + 1)).flatMap pF).toArray⟩ := by
          have := hsn.out (fld (parts.length : Int) 1 ++ parts.flatMap (fun p => fld p 1)) (by rw [hpF.out]; rfl)
          rw [← this, ByteArray.mk_append_mk]
          simp
        have hpI : -9223372036854775808 ≤ (parts.length : Int) ∧ (parts.length : Int) ≤ 9223372036854775807 := by omega
        go_wp2_with fail
        refine (refField (parts.length : Int) 1 _ hpI.1 hpI.2 (by omega)).mono ?_
        rintro en w3 ⟨rfl, hu3⟩
        have hA3 := hA.next hu3
        clear hu3 hA y0 y1 y2 y3 y4 y5 y6 y7 y8 y9 y10 y11 y12 y13
        go_wp2_with fail
        go_loopw [3, 6] (fun sv jv wr => ∃ j : Nat, jv = .int .i64 (j : Int) ∧ j ≤ parts.length ∧ sv = .string ⟨(acc ++ fld (parts.length : Int) 1 ++ (parts.take j).flatMap (fun p => fld p 1)).toArray⟩ ∧ BxOf #[.int .i64 kind, .int .i64 session, .string ⟨bucket.toArray⟩, .string ⟨object.toArray⟩, .string ⟨version.toArray⟩, .string ⟨pre.toArray⟩, .string ⟨delim.toArray⟩, .string ⟨body.toArray⟩, .int .i64 ck, .int .i64 re, .int .i64 im, .int .i64 id, .int .i64 n, .slice pa parts.length pc] w wr) (fun _ jv _ => parts.length - (intOf jv).toNat)
        case atStart => exact ⟨0, rfl, Nat.zero_le _, by rw [List.take_zero, List.flatMap_nil, List.append_nil, ByteArray.mk_append_mk] <;> simp, hA3⟩
        case round =>
          clear hA3
          obtain ⟨j, rfl, hjl, rfl, hA⟩ := hrel
          obtain ⟨y0, y1, y2, y3, y4, y5, y6, y7, y8, y9, y10, y11, y12, y13⟩ := hY.out _ hA
          by_cases hjt : j < parts.length
          · have hjI : (j : Int) < (parts.length : Int) := by omega
            have hj0 : (0 : Int) ≤ (j : Int) := by omega
            obtain ⟨gg, off, rfl, x0⟩ := hcell j (by rw [List.length_map]; exact hjt) hjt
            rw [List.getElem_map] at x0
            have x1 := hA.2.cell x0 fun h => h
            have hpk := hpp _ (List.getElem_mem hjt)
            have hap : (acc ++ fld (parts.length : Int) 1 ++ (parts.take j).flatMap (fun p => fld p 1)).length ≤ 1000300 := by rw [List.length_append, List.length_append, fld_length, parts_len, List.length_take]; omega
            have hsn2 : Value.string ((⟨(acc ++ fld (parts.length : Int) 1 ++ (parts.take j).flatMap (fun p => fld p 1)).toArray⟩ : ByteArray) ++ ⟨(fld parts[j] 1).toArray⟩) = .string ⟨(acc ++ fld (parts.length : Int) 1 ++ (parts.take (j + 1)).flatMap (fun p => fld p 1)).toArray⟩ := by
              rw [List.take_add_one, List.getElem?_eq_getElem hjt, Option.toList_some, List.flatMap_append, ByteArray.mk_append_mk]
              simp
            generalize parts[j] = p at *
            generalize acc ++ fld (parts.length : Int) 1 ++ (parts.take j).flatMap (fun p => fld p 1) = a2 at *
            have hlx2 : a2.length + (fld p 1).length ≤ 9223372036854775807 := by rw [fld_length]; omega
            have hpI2 : -9223372036854775808 ≤ p ∧ p ≤ 9223372036854775807 := by omega
            clear x0
            go_wp2_with fail
            refine (refField p 1 _ hpI2.1 hpI2.2 (by omega)).mono ?_
            rintro en w4 ⟨rfl, hu4⟩
            have hA4 := hA.next hu4
            clear hu4 hA y0 y1 y2 y3 y4 y5 y6 y7 y8 y9 y10 y11 y12 y13 x1
            go_wp2_with fail
            go_roundw
            case rel => exact ⟨j + 1, by go_num, by omega, by rw [List.append_assoc], hA4⟩
            case measure => simp [intOf]; omega
          · have hjI : ¬ (j : Int) < (parts.length : Int) := by omega
            obtain rfl : j = parts.length := by omega
            rw [List.take_length]
            go_wp2_with fail
            go_roundw
            case rel => exact ⟨k + 1, by go_num, by omega, hg3, hA⟩
            case measure => simp [intOf]; omega
      · have hn2 : (((⟨l.toArray⟩ : ByteArray)[k]'s1).toNat : Int) = 88 := by rw [hn]; rfl
        have hg := hsn.out (txtF body 2) (by rw [hpF.out]; rfl)
        have hlx : acc.length + (txtF body 2).length ≤ 9223372036854775807 := by (try unfold txtF); simp only [List.length_append, fld_length]; omega
        go_wp2_with fail
        refine (rText body 2 _ (by omega) (by omega)).mono ?_
        rintro en w1 ⟨rfl, hu1⟩
        have hb := (hA.next hu1)
        clear hu1 hA y0 y1 y2 y3 y4 y5 y6 y7 y8 y9 y10 y11 y12 y13
        go_wp2_with fail
        go_roundw
        case rel => exact ⟨k + 1, by go_num, by omega, rfl, hb⟩
        case measure => simp [intOf]; omega
    · have hltI : ¬ (k : Int) < (l.length : Int) := by omega
      obtain rfl : k = l.length := by omega
      rw [List.take_length, ← hpq.out]
      go_wp2_with fail
      go_ret
      exact ⟨rfl, hA.2⟩
end Go.Proofs.Ytogekobpjjmnjaa

namespace Go.Proofs.Ytogekobpjjmnjaa
open Go.RowKit Go.Amb
set_option linter.unusedVariables false
set_option linter.unusedSimpArgs false
set_option maxRecDepth 100000
def bytesT (q : Rq) : Array Value := if rightQ q then #[.string ⟨(putQ q).toArray⟩, .int .i64 0] else #[.string ⟨#[]⟩, .int .i64 4]
set_option maxHeartbeats 1000000 in
theorem rBytes (q : Rq) (pv : Value) (w : World) (hP : Ints w pv q.parts) (hs : smallQ q) (hpb : ∀ k, At pv k → k < w.heap.size) (hid : -9223372036854775808 ≤ q.id ∧ q.id ≤ 9223372036854775807) :
    Calls Try.prog 10 #[rqV q pv] w (Ret (.tuple (bytesT q)) w) := by
  have hst : BxOf (rqC q pv) w (w.alloc (.cells (rqC q pv) 30)) := BxOf.start (Upd.refl _ _)
  have hRt := Lib.hid (fun w' (hu : Upd Non w w') => rRight q pv w' (hP.non hu) hs)
  have hPt := Lib.hid (fun w' (hu : Upd Non w w') (h : fitsQ q) => rPut q pv w' (hP.non hu) (fun k hk => Nat.lt_of_lt_of_le (hpb k hk) hu.size) h hid)
  have hY : Hid (∀ w', BxOf (rqC q pv) w w' → w'.cell? ⟨w.heap.size, 0, none⟩ = some (.int .i64 q.kind) ∧ w'.cell? ⟨w.heap.size, 1, none⟩ = some (.int .i64 q.session) ∧ w'.cell? ⟨w.heap.size, 2, none⟩ = some (.string ⟨q.bucket.toArray⟩) ∧ w'.cell? ⟨w.heap.size, 3, none⟩ = some (.string ⟨q.object.toArray⟩) ∧ w'.cell? ⟨w.heap.size, 4, none⟩ = some (.string ⟨q.version.toArray⟩) ∧ w'.cell? ⟨w.heap.size, 5, none⟩ = some (.string ⟨q.pre.toArray⟩) ∧ w'.cell? ⟨w.heap.size, 6, none⟩ = some (.string ⟨q.delim.toArray⟩) ∧ w'.cell? ⟨w.heap.size, 7, none⟩ = some (.string ⟨q.body.toArray⟩) ∧ w'.cell? ⟨w.heap.size, 8, none⟩ = some (.int .i64 q.ck) ∧ w'.cell? ⟨w.heap.size, 9, none⟩ = some (.int .i64 q.re) ∧ w'.cell? ⟨w.heap.size, 10, none⟩ = some (.int .i64 q.im) ∧ w'.cell? ⟨w.heap.size, 11, none⟩ = some (.int .i64 q.id) ∧ w'.cell? ⟨w.heap.size, 12, none⟩ = some (.int .i64 q.n) ∧ w'.cell? ⟨w.heap.size, 13, none⟩ = some pv) := Lib.hid (fun w' h => cells14 h.1)
  obtain ⟨y0, y1, y2, y3, y4, y5, y6, y7, y8, y9, y10, y11, y12, y13⟩ := hY.out _ hst
  by_cases hR : rightQ q
  · rw [decide_eq_true hR] at hRt
    have hbt : bytesT q = #[.string ⟨(putQ q).toArray⟩, .int .i64 0] := if_pos hR
    rw [hbt]
    replace hPt := Lib.hid (fun w' hu => hPt.out w' hu hR.1)
    generalize putQ q = pq at *
    clear hbt hR
    unfold rqV at hRt hPt ⊢
    unfold rqC at *
    clear hP hs
    go_enter Try.func10, Try.ntmps10
    go_wp2_with fail
    refine (hRt.out _ hst.2).mono ?_
    rintro en w1 ⟨rfl, hu⟩
    have hA := hst.next hu
    clear hu hst y0 y1 y2 y3 y4 y5 y6 y7 y8 y9 y10 y11 y12 y13
    obtain ⟨y0, y1, y2, y3, y4, y5, y6, y7, y8, y9, y10, y11, y12, y13⟩ := hY.out _ hA
    go_wp2_with fail
    refine (hPt.out _ hA.2).mono ?_
    rintro en w2 ⟨rfl, hu⟩
    have hA2 := hA.next hu
    clear hu hA y0 y1 y2 y3 y4 y5 y6 y7 y8 y9 y10 y11 y12 y13
    go_wp2_with fail
    go_ret2
    exact ⟨rfl, hA2.2⟩
  · rw [decide_eq_false hR] at hRt
    have hbt : bytesT q = #[.string ⟨#[]⟩, .int .i64 4] := if_neg hR
    rw [hbt]
    clear hbt hR hPt
    unfold rqV at hRt ⊢
    unfold rqC at *
    clear hP hs
    go_enter Try.func10, Try.ntmps10
    go_wp2_with fail
    refine (hRt.out _ hst.2).mono ?_
    rintro en w1 ⟨rfl, hu⟩
    have hA := hst.next hu
    clear hu hst y0 y1 y2 y3 y4 y5 y6 y7 y8 y9 y10 y11 y12 y13
    go_wp2_with fail
    go_ret2
    exact ⟨rfl, hA.2⟩
end Go.Proofs.Ytogekobpjjmnjaa
