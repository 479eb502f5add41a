/- begun: acts on a new disk. -/
import Derived.Test.YtgkiglodhhlnmaaBlN
import Derived.Test.YtgkiglodhhlnmaaLibC
namespace Go.Amb
open Go.RowKit
/-- An act: kind, number, text, the slice of numbers and what it holds. -/
structure Act4 where
  kind : Int
  i : Int
  s : List UInt8
  v : Value
  keep : List Int
def ac (a : Act4) : List Value := [.int .i64 a.kind, .int .i64 a.i, .string ⟨a.s.toArray⟩, a.v]
/-- What an act does. -/
def doAct (d : Dk) (a : Act4) : Dk := if a.kind = 1 then d.flush.1 else if a.kind = 2 then d.crash a.keep else if a.kind = 3 then (d.arm a.i).1 else (d.write a.i a.s).1
theorem keep_P (d : Dk) (f : Nat → Bool) : (d.keep f).P.length = 0 := rfl
theorem flush_P (d : Dk) : d.flush.1.P.length ≤ d.P.length := by
  unfold Dk.flush
  split
  · exact Nat.le_refl _
  · split
    · rw [Dk.burn_P]; exact Nat.le_refl _
    · rw [keep_P]; exact Nat.zero_le _
theorem crash_P (d : Dk) (l : List Int) : (d.crash l).P.length = 0 := rfl
theorem arm_P (d : Dk) (n : Int) : (d.arm n).1.P = d.P := by unfold Dk.arm; split <;> rfl
theorem write_P (d : Dk) (i : Int) (s : List UInt8) : (d.write i s).1.P.length ≤ d.P.length + 1 := by
  unfold Dk.write
  split
  · exact Nat.le_succ _
  · split
    · exact Nat.le_succ _
    · split
      · rw [Dk.burn_P]; exact Nat.le_succ _
      · simp only [List.length_append, List.length_cons, List.length_nil, Dk.burn_P]; omega
theorem doAct_P (d : Dk) (a : Act4) : (doAct d a).P.length ≤ d.P.length + 1 := by
  unfold doAct
  split
  · have := flush_P d; omega
  · split
    · rw [crash_P]; omega
    · split
      · rw [arm_P]; omega
      · exact write_P d a.i a.s
def begunD (l : List Act4) (k : Nat) : Dk := (l.take k).foldl doAct ⟨List.replicate 8 (List.replicate 128 0), [], -1, false⟩
theorem begunD_succ (l : List Act4) (k : Nat) (h : k < l.length) : begunD l (k + 1) = doAct (begunD l k) l[k] := by
  unfold begunD
  rw [List.take_succ_eq_append_getElem h, List.foldl_append]; rfl
theorem begunD_P (l : List Act4) : ∀ k, (begunD l k).P.length ≤ k
  | 0 => by simp [begunD]
  | k + 1 => by
    by_cases h : k < l.length
    · rw [begunD_succ l k h]
      have h1 := doAct_P (begunD l k) l[k]
      have h2 := begunD_P l k
      omega
    · have h1 : begunD l (k + 1) = begunD l k := by unfold begunD; rw [List.take_of_length_le (by omega), List.take_of_length_le (by omega)]
      rw [h1]
      have h2 := begunD_P l k
      omega
end Go.Amb
namespace Go.Proofs.Ytgkiglodhhlnmaa
open Go.RowKit Go.Amb Go.Shelf
set_option linter.unusedVariables false
set_option linter.unusedSimpArgs false
set_option maxRecDepth 100000
/-- An act that came in. -/
structure GoodAct (W : World) (a : Act4) : Prop where
  i : a.i < 9223372036854775808
  s : a.s.length ≤ maxLen
  has : Ints W a.v a.keep
  old : 0 < a.keep.length → ∀ k, At a.v k → k < W.heap.size
/-- Acts that came in. -/
structure Acts (W : World) (v : Value) (l : List Act4) : Prop where
  has : Has W 4 v l.length (l.map ac).flatten
  good : ∀ a ∈ l, GoodAct W a
theorem ac_length (l : List Act4) : ∀ s ∈ l.map ac, s.length = 4 := by
  intro s hs
  obtain ⟨x, hx, rfl⟩ := List.mem_map.1 hs
  rfl
/-- The cells of act k. -/
theorem Acts.cells {W : World} {v : Value} {l : List Act4} (h : Acts W v l) {k : Nat} (hk : k < l.length) : ∃ g off c, v = .slice (some ⟨g, off, none⟩) l.length c ∧
    W.cell? ⟨g, off + k * 4, none⟩ = some (.int .i64 l[k].kind) ∧ W.cell? ⟨g, off + k * 4 + 1, none⟩ = some (.int .i64 l[k].i) ∧ W.cell? ⟨g, off + k * 4 + 2, none⟩ = some (.string ⟨l[k].s.toArray⟩) ∧ W.cell? ⟨g, off + k * 4 + 3, none⟩ = some l[k].v := by
  obtain ⟨_, a, c, rfl, -, -, h3⟩ := h.has
  obtain ⟨g, off, rfl, hc⟩ := h3.resolve_left (by omega)
  have hg : ∀ j (hj : j < 4), W.cell? ⟨g, off + (k * 4 + j), none⟩ = some ((ac l[k])[j]'(by simpa [ac] using hj)) := fun j hj => hc _ _ (by
    have := fl_get (m := 4) (L := l.map ac) (ac_length l) k j (by rw [List.length_map]; exact hk) hj
    rw [this, List.getElem_map, List.getElem?_eq_getElem (by simpa [ac] using hj)])
  refine ⟨g, off, c, rfl, hg 0 (by omega), ?_, ?_, ?_⟩
  · rw [Nat.add_assoc]; exact hg 1 (by omega)
  · rw [Nat.add_assoc]; exact hg 2 (by omega)
  · rw [Nat.add_assoc]; exact hg 3 (by omega)
set_option maxHeartbeats 20000000 in
theorem lBegun (v : Value) (l : List Act4) (w : World) (hA : Acts w v l) : Calls Try.prog 8 #[v] w (fun en w' => ∃ D F, en = .returned (.pointer (some ⟨D, 0, none⟩)) ∧ Lv w D w' F (begunD l (min l.length 200))) := by
  have cN := Lib.hid (lvNew 8 (by omega) (by omega) w)
  obtain ⟨n, hn⟩ : ∃ n, l.length = n := ⟨_, rfl⟩
  have hform : ∃ a c, v = .slice a n c := by obtain ⟨_, a, c, rfl, -⟩ := hA.has; exact ⟨a, c, by rw [hn]⟩
  have hnl : n ≤ 9223372036854775807 := by obtain ⟨_, a, c, -, h1, h2, -⟩ := hA.has; unfold maxLen at h2; omega
  obtain ⟨va, vc, rfl⟩ := hform
  replace hnl := Lib.hid hnl
  replace hA := Lib.hid hA
  obtain ⟨R, hR⟩ : ∃ R : Ending → World → Prop, R = (fun en w' => ∃ D F, en = .returned (.pointer (some ⟨D, 0, none⟩)) ∧ Lv w D w' F (begunD l (min l.length 200))) := ⟨_, rfl⟩
  rw [← hR]
  replace hR := Lib.hid hR
  go_enter Try.func8, Try.ntmps8
  go_wp2_with fail
  refine cN.out.mono ?_
  rintro en w1 ⟨D, F1, rfl, L1⟩
  replace L1 := Lib.hid L1
  clear cN
  go_wp2_with fail
  go_loopw [5] (fun iv wr => ∃ (k : Nat) (F : Nat → Prop), iv = .int .i64 (k : Int) ∧ k ≤ n ∧ k ≤ 200 ∧ Lv w D wr F (begunD l k)) (fun iv _ => n - (intOf iv).toNat)
  case atStart => exact ⟨0, F1, rfl, by omega, by omega, L1.out⟩
  case round =>
    obtain ⟨k, F, rfl, hkn, hk200, L⟩ := hrel
    have hP := begunD_P l k
    by_cases hin : k < n
    · by_cases h200 : k < 200
      · have hin' : (k : Int) < (n : Int) := by omega
        have hk2 : (k : Int) < 200 := by omega
        have hk0 : (0 : Int) ≤ (k : Int) := by omega
        have hkl : k < l.length := by omega
        obtain ⟨g, off, c, hv, c0, c1, c2, c3⟩ := hA.out.cells hkl
        injection hv with hv e1 e2
        clear e1 e2
        subst hv
        have hg := hA.out.good _ (List.getElem_mem hkl)
        have hsucc := begunD_succ l k hkl
        generalize l[k] = a at *
        obtain ⟨kind, i, s, v, keep⟩ := a
        obtain ⟨hi, hsl, hI, hold⟩ := hg
        simp only at c0 c1 c2 c3 hi hsl hI hold
        have x0 := L.upd.cell c0 fun h => h
        have x1 := L.upd.cell c1 fun h => h
        have x2 := L.upd.cell c2 fun h => h
        have x3 := L.upd.cell c3 fun h => h
        obtain ⟨_, va, vc2, rfl, -⟩ := id hI
        have hA2 : Upd Non wr (wr.alloc (.cells #[.int .i64 kind, .int .i64 i, .string ⟨s.toArray⟩, .slice va keep.length vc2] 34)) := Upd.alloc _ _ _
        have LA := L.non hA2
        have hP1 : (begunD l k).P.length ≤ 1000000 := by omega
        generalize begunD l k = d at *
        clear c0 c1 c2 c3 L hP
        replace hn := Lib.hid hn
        replace hI := Lib.hid hI
        replace hold := Lib.hid hold
        replace hsucc := Lib.hid hsucc
        replace hsl := Lib.hid hsl
        clear hkl
        by_cases h1 : kind = 1
        · have cF := Lib.hid (lvFlush LA hP1)
          subst h1
          clear LA hA2
          go_wp2_with fail
          refine cF.out.mono ?_
          rintro en w2 ⟨rfl, F2, L2, -⟩
          replace L2 := Lib.hid L2
          clear cF
          simp only []
          go_wp2_with fail
          go_roundw
          case rel => exact ⟨k + 1, F2, by go_num, by omega, by omega, by rw [hsucc.out]; simp only [doAct, if_true]; exact L2.out⟩
          case measure => simp [intOf]; omega
        · have h1' : (kind = 1) = False := eq_false h1
          have h1'' : (kind == 1) = false := by simp [h1]
          by_cases h2 : kind = 2
          · have cC := Lib.hid (lvCrash LA hP1 (.slice va keep.length vc2) keep ((hI.out.non LA.upd)) (fun h0 k hk hF => by have := hold.out h0 k hk; have := LA.own k hF; omega))
            subst h2
            clear LA hA2 h1
            go_wp2_with fail
            refine cC.out.mono ?_
            rintro en w2 ⟨rfl, F2, L2, -⟩
            replace L2 := Lib.hid L2
            clear cC
            simp only []
            go_wp2_with fail
            go_roundw
            case rel => exact ⟨k + 1, F2, by go_num, by omega, by omega, by rw [hsucc.out]; simp only [doAct, h1', if_true, if_false]; exact L2.out⟩
            case measure => simp [intOf]; omega
          · have h2' : (kind = 2) = False := eq_false h2
            have h2'' : (kind == 2) = false := by simp [h2]
            by_cases h3 : kind = 3
            · have cA := Lib.hid (lvArm LA i hi)
              subst h3
              clear LA hA2 h1 h2
              go_wp2_with fail
              refine cA.out.mono ?_
              rintro en w2 ⟨rfl, F2, L2, -⟩
              replace L2 := Lib.hid L2
              clear cA
              simp only []
              go_wp2_with fail
              go_roundw
              case rel => exact ⟨k + 1, F2, by go_num, by omega, by omega, by rw [hsucc.out]; simp only [doAct, h1', h2', if_true, if_false]; exact L2.out⟩
              case measure => simp [intOf]; omega
            · have h3' : (kind = 3) = False := eq_false h3
              have h3'' : (kind == 3) = false := by simp [h3]
              replace LA := Lib.hid LA
              clear hA2 h1 h2 h3
              obtain ⟨c3, w3, hr, hm⟩ := run_tobytes (P := Try.prog) (wr.alloc (.cells #[.int .i64 kind, .int .i64 i, .string ⟨s.toArray⟩, .slice va keep.length vc2] 34)) 9 30 5 Try.underlying9 Try.underlying30 Try.underlying5 s hsl.out
              have LB := LA.out.non hm.upd
              have hb := hm.bytes
              have cW := Lib.hid (lvWrite LB hP1 i s _ hb (fun k hk hF => by have := LA.out.at_.lt k hF; have := at_of hk; omega))
              rw [World.size_alloc] at hr cW
              clear hb
              clear hm LA LB
              go_wp2_with fail
              refine cW.out.mono ?_
              rintro en w2 ⟨rfl, F2, L2, -⟩
              replace L2 := Lib.hid L2
              clear cW
              simp only []
              go_wp2_with fail
              go_roundw
              case rel => exact ⟨k + 1, F2, by go_num, by omega, by omega, by rw [hsucc.out]; simp only [doAct, h1', h2', h3', if_false]; exact L2.out⟩
              case measure => simp [intOf]; omega
      · have hin' : (k : Int) < (n : Int) := by omega
        have hk2 : ¬ (k : Int) < 200 := by omega
        replace L := Lib.hid L
        go_wp2_with fail
        rw [hR.out]
        exact ⟨D, F, rfl, by rw [hn, show min n 200 = k by omega]; exact L.out⟩
    · have hin' : ¬ (k : Int) < (n : Int) := by omega
      replace L := Lib.hid L
      go_wp2_with fail
      rw [hR.out]
      exact ⟨D, F, rfl, by rw [hn, show min n 200 = k by omega]; exact L.out⟩
end Go.Proofs.Ytgkiglodhhlnmaa
