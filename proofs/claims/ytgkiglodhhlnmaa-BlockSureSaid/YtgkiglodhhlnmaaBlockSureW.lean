/- The walk over BlockSure. -/
import Derived.Test.YtgkiglodhhlnmaaBlQ
namespace Go.Proofs.Ytgkiglodhhlnmaa
open Go.RowKit Go.Amb Go.Shelf
set_option linter.unusedVariables false
set_option linter.unusedSimpArgs false
set_option maxRecDepth 100000
theorem rem8 (i : Int) : ∃ n : Nat, n < 8 ∧ wrap64 ((IntKind.u64.wrap i).tmod 8) = n := by
  have h1 : IntKind.u64.wrap i = i % 18446744073709551616 := by rw [IntKind.wrap_u64]
  have h2 : 0 ≤ i % 18446744073709551616 := by omega
  rw [h1, Int.tmod_eq_emod_of_nonneg h2]
  refine ⟨(i % 18446744073709551616 % 8).toNat, by omega, ?_⟩
  have h3 : ((i % 18446744073709551616 % 8).toNat : Int) = i % 18446744073709551616 % 8 := by omega
  rw [h3]
  exact IntWalk.wrap64_in _ ⟨by omega, by omega⟩
set_option maxHeartbeats 20000000 in
theorem lBlockSure (v1 : Value) (l1 : List Act4) (i : Int) (s : List UInt8) (v2 : Value) (l2 : List Act4) (v3 : Value) (keep : List Int) (w : World) (hA1 : Acts w v1 l1) (hA2 : Acts w v2 l2) (hI3 : Ints w v3 keep)
    (hold3 : 0 < keep.length → ∀ k, At v3 k → k < w.heap.size) (hs : s.length ≤ maxLen) (hi1 : -9223372036854775808 ≤ i) (hi2 : i < 9223372036854775808) :
    Calls Try.prog 3 #[v1, .int .i64 i, .string ⟨s.toArray⟩, v2, v3] w (Ret (.bool true) w) := by
  have cB := Lib.hid (lBegun v1 l1 w hA1)
  obtain ⟨n, hn⟩ : ∃ n, l2.length = n := ⟨_, rfl⟩
  have hform : ∃ a c, v2 = .slice a n c := by obtain ⟨_, a, c, rfl, -⟩ := hA2.has; exact ⟨a, c, by rw [hn]⟩
  obtain ⟨va, vc, rfl⟩ := hform
  have hform3 : ∃ a m c, v3 = .slice a m c := by obtain ⟨_, a, c, rfl, -⟩ := hI3; exact ⟨_, _, _, rfl⟩
  obtain ⟨ka, km, kc, rfl⟩ := hform3
  have hform1 : ∃ a m c, v1 = .slice a m c := by obtain ⟨_, a, c, rfl, -⟩ := hA1.has; exact ⟨_, _, _, rfl⟩
  obtain ⟨ja, jm, jc, rfl⟩ := hform1
  replace hA1 := Lib.hid hA1
  replace hA2 := Lib.hid hA2
  replace hI3 := Lib.hid hI3
  replace hold3 := Lib.hid hold3
  replace hs := Lib.hid hs
  replace hi1 := Lib.hid hi1
  replace hi2 := Lib.hid hi2
  replace hn := Lib.hid hn
  by_cases h128 : 128 < s.length
  · have h128' : (128 : Int) < (s.length : Int) := by omega
    go_enter Try.func3, Try.ntmps3
    go_wp2_with fail
    refine cB.out.mono ?_
    rintro en w1 ⟨D, F1, rfl, L1⟩
    have hU1 := L1.upd
    clear L1 cB
    simp only []
    go_wp2_with fail
    refine (lives04 _).mono ?_
    rintro en w2 ⟨rfl, hu2⟩
    have hU2 := hU1.trans hu2 fun _ _ h => h
    simp only []
    go_wp2_with fail
    go_ret
    exact ⟨rfl, hU2⟩
  · have h128' : ((128 : Int) < (s.length : Int)) = False := eq_false (by omega)
    have h128n : (128 < s.length) = False := eq_false h128
    have hsl : Hid (s.length ≤ 128) := Lib.hid (by omega)
    clear h128
    go_enter Try.func3, Try.ntmps3
    go_wp2_with fail
    refine cB.out.mono ?_
    rintro en w1 ⟨D, F1, rfl, L1⟩
    have hK0 := begunD_K l1 (min l1.length 200)
    have hP0 := begunD_P l1 (min l1.length 200)
    obtain ⟨d0, hd0⟩ : ∃ d0, begunD l1 (min l1.length 200) = d0 := ⟨_, rfl⟩
    rw [hd0] at L1 hK0 hP0
    clear hd0 cB
    have cC := Lib.hid (lvCrash L1 (by omega) (.slice none 0 0) [] (Has.nil _ _) (fun _ k hk => by simp [At, Value.ownBlock] at hk))
    clear L1
    simp only []
    go_wp2_with fail
    obtain ⟨at8, ha8, hat⟩ := rem8 i
    simp only [hat]
    replace ha8 := Lib.hid ha8
    clear hat
    refine cC.out.mono ?_
    rintro en w2 ⟨rfl, F2, L2, -⟩
    obtain ⟨hs1, hs2, hS⟩ := sure_init d0 at8 s hK0 ha8.out hsl.out
    have hPc : (d0.crash []).P.length = 0 := crash_P d0 []
    obtain ⟨d1, hd1⟩ : ∃ d1, d0.crash [] = d1 := ⟨_, rfl⟩
    rw [hd1] at L2 hs1 hs2 hS hPc
    obtain ⟨c3, w3, hr, hm⟩ := run_tobytes (P := Try.prog) w2 9 30 5 Try.underlying9 Try.underlying30 Try.underlying5 s hs.out
    have cW := Lib.hid (lvWrite (L2.non hm.upd) (by omega) (at8 : Int) s _ hm.bytes (fun k hk hF => by have := L2.at_.lt k hF; have := at_of hk; omega))
    rw [hs1] at cW
    have hPw := write_P d1 (at8 : Int) s
    obtain ⟨d2, hd2⟩ : ∃ d2, (d1.write (at8 : Int) s).1 = d2 := ⟨_, rfl⟩
    rw [hd2] at cW hs2 hS hPw
    clear hm L2 hd1 hd2 hs1 cC
    simp only []
    go_wp2_with fail
    refine cW.out.mono ?_
    rintro en w4 ⟨rfl, F4, L4, -⟩
    have cF := Lib.hid (lvFlush L4 (by omega))
    rw [hs2] at cF
    have hPf := flush_P d2
    obtain ⟨d3, hd3⟩ : ∃ d3, d2.flush.1 = d3 := ⟨_, rfl⟩
    rw [hd3] at cF hS hPf
    have hP3 : d3.P.length ≤ 1 := by omega
    clear L4 hd3 hs2 cW hr hPf hPw
    simp only []
    go_wp2_with fail
    refine cF.out.mono ?_
    rintro en w5 ⟨rfl, F5, L5, -⟩
    replace L5 := Lib.hid L5
    replace hS := Lib.hid hS
    clear cF
    have hkm : km = keep.length := by obtain ⟨_, a, c, h, -⟩ := hI3.out; injection h
    subst hkm
    simp only []
    go_wp2_with fail
    go_loopw [13] (fun iv wr => ∃ (k : Nat) (F : Nat → Prop) (d : Dk), iv = .int .i64 (k : Int) ∧ k ≤ n ∧ k ≤ 200 ∧ Lv w D wr F d ∧ SureD d at8 s ∧ d.P.length ≤ k + 2) (fun iv _ => n - (intOf iv).toNat)
    case atStart => exact ⟨0, F5, d3, rfl, by omega, by omega, L5.out, hS.out, by omega⟩
    case round =>
      clear L5 hS hP3 hPc
      obtain ⟨k, F, d, rfl, hkn, hk200, L, hS, hP⟩ := hrel
      replace hS := Lib.hid hS
      by_cases hin : k < n
      · by_cases h200 : k < 200
        · have hin' : (k : Int) < (n : Int) := by omega
          have hk2 : (k : Int) < 200 := by omega
          have hk0 : (0 : Int) ≤ (k : Int) := by omega
          have hkl : k < l2.length := by rw [hn.out]; omega
          obtain ⟨g, off, c, hv, c0, c1, c2, c3⟩ := hA2.out.cells hkl
          injection hv with hv e1 e2
          clear e1 e2
          subst hv
          have hg := hA2.out.good _ (List.getElem_mem hkl)
          generalize l2[k] = a at *
          obtain ⟨kind, i', s', v, keep'⟩ := a
          obtain ⟨hi', hsl', hI', hold'⟩ := hg
          simp only at c0 c1 c2 c3 hi' hsl' hI' hold'
          have x0 := L.upd.cell c0 fun h => h
          have x1 := L.upd.cell c1 fun h => h
          have x2 := L.upd.cell c2 fun h => h
          have x3 := L.upd.cell c3 fun h => h
          obtain ⟨_, va', vc2, rfl, -⟩ := id hI'
          have LA := L.non (Upd.alloc Non wr (.cells #[.int .i64 kind, .int .i64 i', .string ⟨s'.toArray⟩, .slice va' keep'.length vc2] 34))
          have hP1 : d.P.length ≤ 1000000 := by omega
          clear c0 c1 c2 c3 L hkl
          replace hI' := Lib.hid hI'
          replace hold' := Lib.hid hold'
          replace hsl' := Lib.hid hsl'
          by_cases h1 : kind = 1
          · subst h1
            have cF := Lib.hid (lvFlush LA hP1)
            clear LA
            go_wp2_with fail
            refine cF.out.mono ?_
            rintro en w2' ⟨rfl, F2', L2', -⟩
            replace L2' := Lib.hid L2'
            clear cF
            simp only []
            go_wp2_with fail
            go_roundw
            case rel => exact ⟨k + 1, F2', _, by go_num, by omega, by omega, L2'.out, hS.out.flush, by have := flush_P d; omega⟩
            case measure => simp [intOf]; omega
          · have h1' : (kind = 1) = False := eq_false h1
            have h1'' : (kind == 1) = false := by simp [h1]
            by_cases h2 : kind = 2
            · subst h2
              have cC := Lib.hid (lvCrash LA hP1 (.slice va' keep'.length vc2) keep' (hI'.out.non LA.upd) (fun h0 k hk hF => by have := hold'.out h0 k hk; have := LA.own k hF; omega))
              clear LA h1
              go_wp2_with fail
              refine cC.out.mono ?_
              rintro en w2' ⟨rfl, F2', L2', -⟩
              replace L2' := Lib.hid L2'
              clear cC
              simp only []
              go_wp2_with fail
              go_roundw
              case rel => exact ⟨k + 1, F2', _, by go_num, by omega, by omega, L2'.out, hS.out.crash _, by rw [crash_P]; omega⟩
              case measure => simp [intOf]; omega
            · have h2' : (kind = 2) = False := eq_false h2
              have h2'' : (kind == 2) = false := by simp [h2]
              by_cases h3 : kind = 3
              · subst h3
                have cA := Lib.hid (lvArm LA i' hi')
                clear LA h1 h2
                go_wp2_with fail
                refine cA.out.mono ?_
                rintro en w2' ⟨rfl, F2', L2', -⟩
                replace L2' := Lib.hid L2'
                clear cA
                simp only []
                go_wp2_with fail
                go_roundw
                case rel => exact ⟨k + 1, F2', _, by go_num, by omega, by omega, L2'.out, hS.out.arm _, by rw [arm_P]; omega⟩
                case measure => simp [intOf]; omega
              · have h3' : (kind = 3) = False := eq_false h3
                have h3'' : (kind == 3) = false := by simp [h3]
                by_cases hia : i' = (at8 : Int)
                · subst hia
                  replace LA := Lib.hid LA
                  clear h1 h2 h3
                  go_wp2_with fail
                  go_roundw
                  case rel => exact ⟨k + 1, F, d, by go_num, by omega, by omega, LA.out, hS.out, by omega⟩
                  case measure => simp [intOf]; omega
                · have hi1a : (i' = (at8 : Int)) = False := eq_false hia
                  have hi1b : (i' != (at8 : Int)) = true := by simpa using hia
                  have hi1c : (i' == (at8 : Int)) = false := by simpa using hia
                  replace LA := Lib.hid LA
                  replace hia := Lib.hid hia
                  clear h1 h2 h3
                  obtain ⟨c3, w3, hr, hm⟩ := run_tobytes (P := Try.prog) (wr.alloc (.cells #[.int .i64 kind, .int .i64 i', .string ⟨s'.toArray⟩, .slice va' keep'.length vc2] 34)) 9 30 5 Try.underlying9 Try.underlying30 Try.underlying5 s' hsl'.out
                  have LB := LA.out.non hm.upd
                  have hb := hm.bytes
                  have cW := Lib.hid (lvWrite LB hP1 i' s' _ hb (fun k hk hF => by have := LA.out.at_.lt k hF; have := at_of hk; omega))
                  rw [World.size_alloc] at hr cW
                  clear hb hm LA LB
                  go_wp2_with fail
                  refine cW.out.mono ?_
                  rintro en w2' ⟨rfl, F2', L2', -⟩
                  replace L2' := Lib.hid L2'
                  clear cW
                  simp only []
                  go_wp2_with fail
                  go_roundw
                  case rel => exact ⟨k + 1, F2', _, by go_num, by omega, by omega, L2'.out, hS.out.write _ _ hia.out, by have := write_P d i' s'; omega⟩
                  case measure => simp [intOf]; omega
        · have hin' : (k : Int) < (n : Int) := by omega
          have hk2 : ¬ (k : Int) < 200 := by omega
          replace hin' : ((k : Int) < (n : Int)) = True := eq_true hin'
          replace hk2 : ((k : Int) < 200) = False := eq_false hk2
          have hP1 : d.P.length ≤ 1000000 := by omega
          have cX := Lib.hid (lvCrash L hP1 (.slice ka keep.length kc) keep (hI3.out.non L.upd) (fun h0 k hk hF => by have := hold3.out h0 k hk; have := L.own k hF; omega))
          clear L
          go_wp2_with fail
          refine cX.out.mono ?_
          rintro en w6 ⟨rfl, F6, L6, -⟩
          have hrd := sure_reads hS.out keep ha8.out
          have hwi := crash_within d keep at8 (by have := hS.out.len; have := ha8.out; omega)
          have cR := Lib.hid (lvRead L6 (by rw [crash_P]; omega) (at8 : Int))
          rw [hrd, hwi] at cR
          clear hrd hwi cX L6
          simp only []
          go_wp2_with fail
          refine cR.out.mono ?_
          rintro en w7 ⟨vb, rfl, Ab, L7, u7⟩
          obtain ⟨gb, ob, cb, hvb, hcb1, hcb2, hcell⟩ := bytes_at Ab.has (by rw [full_length hsl.out]; omega)
          rw [full_length hsl.out] at hvb hcb1
          subst hvb
          have hpc : Bytes w7 (.slice (some ⟨gb, ob, none⟩) s.length cb) s := by
            refine ⟨by rw [bc_length, Nat.mul_one], _, _, rfl, by have := hsl.out; omega, hcb2, .inr ⟨gb, ob, rfl, fun j u hu => ?_⟩⟩
            obtain ⟨hj, rfl⟩ := (bc_get _ _ _).1 hu
            rw [hcell j (by rw [full_length hsl.out]; have := hsl.out; omega)]
            congr 3
            unfold full
            rw [List.getElem_append_left hj]
          have hst := run_str (P := Try.prog) _ 30 9 5 Try.underlying30 Try.underlying5 Try.underlying9 _ _ hpc
          have hU7 := L7.upd
          have hb1 : ((128 : Int) ≤ (cb : Int)) := by omega
          have hb2 : ((s.length : Int) ≤ (cb : Int)) := by have := hsl.out; omega
          have hb0 : ((0 : Int) ≤ (s.length : Int)) := by omega
          clear Ab L7 hcell hpc cR hcb1 hcb2
          simp only []
          go_wp2_with fail
          refine (lives04 _).mono ?_
          rintro en w8 ⟨rfl, hu8⟩
          have hU8 := hU7.trans hu8 fun _ _ h => h
          simp only []
          go_wp2_with fail
          go_ret
          exact ⟨rfl, hU8⟩
      · have hin' : ((k : Int) < (n : Int)) = False := eq_false (by omega)
        have hP1 : d.P.length ≤ 1000000 := by omega
        have cX := Lib.hid (lvCrash L hP1 (.slice ka keep.length kc) keep (hI3.out.non L.upd) (fun h0 k hk hF => by have := hold3.out h0 k hk; have := L.own k hF; omega))
        clear L
        go_wp2_with fail
        refine cX.out.mono ?_
        rintro en w6 ⟨rfl, F6, L6, -⟩
        have hrd := sure_reads hS.out keep ha8.out
        have hwi := crash_within d keep at8 (by have := hS.out.len; have := ha8.out; omega)
        have cR := Lib.hid (lvRead L6 (by rw [crash_P]; omega) (at8 : Int))
        rw [hrd, hwi] at cR
        clear hrd hwi cX L6
        simp only []
        go_wp2_with fail
        refine cR.out.mono ?_
        rintro en w7 ⟨vb, rfl, Ab, L7, u7⟩
        obtain ⟨gb, ob, cb, hvb, hcb1, hcb2, hcell⟩ := bytes_at Ab.has (by rw [full_length hsl.out]; omega)
        rw [full_length hsl.out] at hvb hcb1
        subst hvb
        have hpc : Bytes w7 (.slice (some ⟨gb, ob, none⟩) s.length cb) s := by
          refine ⟨by rw [bc_length, Nat.mul_one], _, _, rfl, by have := hsl.out; omega, hcb2, .inr ⟨gb, ob, rfl, fun j u hu => ?_⟩⟩
          obtain ⟨hj, rfl⟩ := (bc_get _ _ _).1 hu
          rw [hcell j (by rw [full_length hsl.out]; have := hsl.out; omega)]
          congr 3
          unfold full
          rw [List.getElem_append_left hj]
        have hst := run_str (P := Try.prog) _ 30 9 5 Try.underlying30 Try.underlying5 Try.underlying9 _ _ hpc
        have hU7 := L7.upd
        have hb1 : ((128 : Int) ≤ (cb : Int)) := by omega
        have hb2 : ((s.length : Int) ≤ (cb : Int)) := by have := hsl.out; omega
        have hb0 : ((0 : Int) ≤ (s.length : Int)) := by omega
        clear Ab L7 hcell hpc cR hcb1 hcb2
        simp only []
        go_wp2_with fail
        refine (lives04 _).mono ?_
        rintro en w8 ⟨rfl, hu8⟩
        have hU8 := hU7.trans hu8 fun _ _ h => h
        simp only []
        go_wp2_with fail
        go_ret
        exact ⟨rfl, hU8⟩
end Go.Proofs.Ytgkiglodhhlnmaa
