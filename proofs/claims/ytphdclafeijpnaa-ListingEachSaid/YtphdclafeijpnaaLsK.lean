/- The reference's List. -/
import Derived.Test.YtphdclafeijpnaaLsI
import Derived.Test.YtphdclafeijpnaaLibG
import Derived.Test.YtphdclafeijpnaaLibB
import Derived.Deep.QuietTactic
namespace Go.Amb
open Go.RowKit
/-- Entries as cells. -/
def ec (l : List Ent) : List Value := l.flatMap fun x => [txtV x.1, .bool x.2]
theorem ec_append (a b : List Ent) : ec (a ++ b) = ec a ++ ec b := by simp [ec]
theorem ec_length (l : List Ent) : (ec l).length = l.length * 2 := by
  induction l with
  | nil => rfl
  | cons p l ih =>
    show ([txtV p.1, .bool p.2] ++ ec l).length = _
    rw [List.length_append, ih]; simp; omega
theorem ec_get (l : List Ent) : ∀ (k : Nat) (h : k < l.length), (ec l)[k * 2]? = some (txtV l[k].1) ∧ (ec l)[k * 2 + 1]? = some (.bool l[k].2) := by
  induction l with
  | nil => intro k h; cases h
  | cons p l ih =>
    intro k h
    cases k with
    | zero => exact ⟨rfl, rfl⟩
    | succ k =>
      have := ih k (by simpa using h)
      rw [show (k + 1) * 2 = k * 2 + 2 by omega, show k * 2 + 2 + 1 = k * 2 + 1 + 2 by omega]
      exact this
theorem ec_one (l : List Ent) : ∀ u ∈ ec l, u.oneCell' = true := by
  intro u hu
  obtain ⟨p, _, hp⟩ := List.mem_flatMap.1 hu
  simp only [List.mem_cons, List.not_mem_nil, or_false] at hp
  rcases hp with rfl | rfl <;> rfl
abbrev EntsAt (w : World) (v : Value) (l : List Ent) : Prop := Has w 2 v l.length (ec l)
theorem ents_at {w : World} {v : Value} {l : List Ent} (h : EntsAt w v l) : ∃ a c, v = .slice a l.length c ∧ ∀ i (hi : i < l.length), ∃ g off, a = some ⟨g, off, none⟩ ∧ w.cell? ⟨g, off + i * 2, none⟩ = some (txtV l[i].1) ∧ w.cell? ⟨g, off + i * 2 + 1, none⟩ = some (.bool l[i].2) := by
  obtain ⟨_, a, c, rfl, _, _, h4⟩ := h
  refine ⟨a, c, rfl, fun i hi => ?_⟩
  obtain ⟨g, off, rfl, hc⟩ := h4.resolve_left (by omega)
  obtain ⟨h1, h2⟩ := ec_get l i hi
  exact ⟨g, off, rfl, hc _ _ h1, by have := hc _ _ h2; rwa [← Nat.add_assoc] at this⟩
/-- The last entry, or none's. -/
def lastE (a : Str) (l : List Ent) : Ent := if l = [] then (a, false) else l.getD (l.length - 1) ([], false)
theorem lastE_snoc (a : Str) (l : List Ent) (x : Ent) : lastE a (l ++ [x]) = x := by
  unfold lastE
  rw [if_neg (by simp), List.getD_eq_getElem?_getD]; simp
theorem lastE_get {a : Str} {l : List Ent} (h : 0 < l.length) : lastE a l = l[l.length - 1] := by
  unfold lastE
  rw [if_neg (by intro e; subst e; simp at h), List.getD_eq_getElem?_getD, List.getElem?_eq_getElem (by omega)]; rfl
end Go.Amb
namespace Go.Proofs.Ytphdclafeijpnaa
open Go.RowKit Go.Amb Go.Shelf
set_option linter.unusedVariables false
set_option linter.unusedSimpArgs false
set_option maxRecDepth 100000
theorem info_entry : Hid ((Try.prog.info? 51).map (fun i => (i.zero, i.size, i.bytes)) = some (some (.agg #[.string ⟨#[]⟩, .bool false]), 2, 24)) := Lib.hid rfl
def ListRet (w : World) (E : List Ent) (en : Ending) (w' : World) : Prop := ∃ v, en = .returned v ∧ EntsAt w' v E ∧ Upd Non w w' ∧ ∀ k, At v k → w.heap.size ≤ k ∧ k < w'.heap.size
set_option maxHeartbeats 4000000 in
theorem rList (nv : Value) (l : List Str) (p d a : Str) (w : World) (hT : Txts w nv l) (hn : l.length ≤ 500) (hs : ∀ s ∈ l, s.length ≤ 140737488355328) (hd : d.length ≤ 1) (hal : a.length ≤ 32) :
    Calls Try.prog 22 #[nv, txtV p, txtV d, txtV a] w (ListRet w (ents p d a l)) := by
  obtain ⟨R, hR⟩ : ∃ R, R = ListRet w (ents p d a l) := ⟨_, rfl⟩
  rw [← hR]
  replace hR := Lib.hid hR
  obtain ⟨va, vc, rfl, -⟩ := txts_at hT
  obtain ⟨n, hnn⟩ : ∃ n, l.length = n := ⟨_, rfl⟩
  have hT' : Txts w (.slice va n vc) l := by rw [← hnn]; exact hT
  rw [hnn] at hn ⊢
  replace hT' := Lib.hid hT'
  replace hs := Lib.hid hs
  have hie := info_entry
  clear hT
  unfold txtV
  go_enter Try.func22, Try.ntmps22
  go_wp2_with fail
  go_loopw [9, 10] (fun ov iv wr => ∃ (k : Nat) (L : List Ent), iv = .int .i64 (k : Int) ∧ k ≤ n ∧ L.length ≤ k ∧ wr.ownsRow w.heap.size 51 2 ov L.length (ec L) ∧ Hid (ents p d a l = L ++ entsFrom p d a (lastE a L) (l.drop k)) ∧ Upd Non w wr) (fun _ iv _ => n - (intOf iv).toNat)
  case atStart => exact ⟨0, [], rfl, by omega, Nat.le_refl _, World.ownsRow_nil _ _ _ _, Lib.hid rfl, Upd.refl _ _⟩
  case round =>
    obtain ⟨k, L, rfl, hk, hLk, ho, hE, hu⟩ := hrel
    obtain ⟨_, oa, oc, rfl, -⟩ := id (has_of_owns ho)
    obtain ⟨ln, hln⟩ : ∃ ln, L.length = ln := ⟨_, rfl⟩
    rw [hln] at ho ⊢
    by_cases hkn : k < n
    · have hkn' : (k : Int) < (n : Int) := by omega
      have hk0 : (0 : Int) ≤ (k : Int) := by omega
      have hkl : k < l.length := by omega
      obtain ⟨_, _, e, hat⟩ := txts_at (hT'.out.non hu)
      injection e with e1 e2 e3
      subst e1
      clear e2 e3
      obtain ⟨g, off, rfl, hx⟩ := hat k hkl
      obtain ⟨s, hsk⟩ : ∃ s, l[k] = s := ⟨_, rfl⟩
      rw [hsk] at hx
      have hsl : s.length ≤ 140737488355328 := by rw [← hsk]; exact hs.out _ (List.getElem_mem hkl)
      have cB := Lib.hid (fun w => rBegins s p w)
      unfold txtV at cB hx
      clear hat
      by_cases hbg : begins s p = true
      · rw [hbg] at cB
        have hpl := begins_le hbg
        obtain ⟨x, hxe⟩ : ∃ x, entOf s p d = x := ⟨_, rfl⟩
        have cE := Lib.hid (fun w => rEntry s p d w hd hpl hsl)
        rw [hxe] at cE
        obtain ⟨xs, xb⟩ := x
        unfold txtV at cE
        simp only at cE
        have hxl : xs.length ≤ 140737488355328 := by
          have h1 : (entOf s p d).1.length ≤ s.length := by
            unfold entOf
            cases d with
            | nil => exact Nat.le_refl _
            | cons c d =>
              simp only
              split
              · simp [List.length_take]; omega
              · exact Nat.le_refl _
          rw [hxe] at h1; simp only at h1; omega
        have cL := Lib.hid (fun w => rBelow a xs w (by omega) hxl)
        by_cases hle : Op.bytesLess a xs = false
        · rw [hle] at cL
          have hsk2 := Lib.hid (ents_skip (p := p) (d := d) (a := a) (last := lastE a L) hkl (by rw [hsk, hxe]; exact .inr (.inl hle)))
          replace hle := Lib.hid hle
          go_wp2_with fail
          refine (cB.out _).mono ?_
          rintro e w2 ⟨rfl, hu2⟩
          have hx2 := hu2.cell hx fun h => h
          simp only []
          go_wp2_with fail
          refine (cE.out _).mono ?_
          rintro e w3 ⟨rfl, hu3⟩
          simp only []
          go_wp2_with fail
          refine (cL.out _).mono ?_
          rintro e w4 ⟨rfl, hu4⟩
          have hU4 := ((hu2.trans hu3 fun _ _ h => h).trans hu4 fun _ _ h => h)
          have ho4 := hU4.owns ho fun _ _ h => h
          have hu4' := hu.trans hU4 fun _ _ h => h
          clear hu2 hu3 hu4 hU4 ho hu hx hx2 cB cE cL
          simp only []
          go_wp2_with fail
          go_roundw
          case rel => exact ⟨k + 1, L, by go_num, by omega, by omega, by rw [hln]; exact ho4, Lib.hid (by rw [← hsk2.out]; exact hE.out), hu4'⟩
          case measure => simp [intOf]; omega
        · have hlt' : Op.bytesLess a xs = true := by simpa using hle
          rw [hlt'] at cL
          have hskip : (xs, xb) = lastE a L → entsFrom p d a (lastE a L) (l.drop k) = entsFrom p d a (lastE a L) (l.drop (k + 1)) := fun h => ents_skip hkl (by rw [hsk, hxe]; exact .inr (.inr h))
          have htake : (xs, xb) ≠ lastE a L → ents p d a l = (L ++ [(xs, xb)]) ++ entsFrom p d a (lastE a (L ++ [(xs, xb)])) (l.drop (k + 1)) := fun h => by
            have h1 := ents_take (p := p) (d := d) (a := a) (last := lastE a L) hkl (by rw [hsk, hxe]; rintro (h' | h' | h'); rw [hbg] at h'; cases h'; exact hle h'; exact h h')
            rw [hsk, hxe] at h1
            rw [hE.out, h1, lastE_snoc, List.append_assoc]; rfl
          have hfirst : L = [] → (xs, xb) ≠ lastE a L := fun h e => by
            subst h
            have : xs = a := (Prod.mk.inj e).1
            rw [this, bytesLess_irrefl] at hlt'; cases hlt'
          have hlast : ∀ h : 0 < L.length, lastE a L = L[L.length - 1] := fun h => lastE_get h
          replace hskip := Lib.hid hskip
          replace htake := Lib.hid htake
          replace hfirst := Lib.hid hfirst
          clear hle hlt'
          go_wp2_with fail
          refine (cB.out _).mono ?_
          rintro e w2 ⟨rfl, hu2⟩
          have hx2 := hu2.cell hx fun h => h
          simp only []
          go_wp2_with fail
          refine (cE.out _).mono ?_
          rintro e w3 ⟨rfl, hu3⟩
          simp only []
          go_wp2_with fail
          refine (cL.out _).mono ?_
          rintro e w4 ⟨rfl, hu4⟩
          have hU4 := ((hu2.trans hu3 fun _ _ h => h).trans hu4 fun _ _ h => h)
          have ho4 := hU4.owns ho fun _ _ h => h
          have hu4' := hu.trans hU4 fun _ _ h => h
          clear hu2 hu3 hu4 hU4 ho hu hx hx2 cB cE cL
          simp only []
          have hA := Upd.alloc Non w4 (.cells #[.string ⟨xs.toArray⟩, .bool xb] 51)
          have hx5 := heap_alloc_new w4 (.cells #[.string ⟨xs.toArray⟩, .bool xb] 51)
          have x0 := (cells_of hx5).1 0
          have x1 := (cells_of hx5).1 1
          have ho5 := hA.owns ho4 fun _ _ h => h
          have hu5 := hu4'.trans hA fun _ _ h => h
          clear hA ho4 hu4' hx5
          obtain ⟨hL2, hL1⟩ : ln ≤ 500 ∧ ln ≤ k := ⟨by omega, by omega⟩
          have hq1 : ln + 1 ≤ maxLen := by unfold maxLen; omega
          have hq2 : (ln + 1) * 24 ≤ 140737488355328 := by omega
          by_cases hL0 : ln = 0
          · subst hL0
            have hLn : L = [] := List.length_eq_zero_iff.1 hln
            have htk := htake.out (hfirst.out hLn)
            replace htk := Lib.hid htk
            subst hLn
            clear htake hfirst hskip hlast
            go_wp2_with fail
            obtain ⟨w5, hw5⟩ : ∃ w5, w4.alloc (.cells #[.string ⟨xs.toArray⟩, .bool xb] 51) = w5 := ⟨_, rfl⟩
            rw [hw5] at ho5 hu5 x0 x1 ⊢
            have hb5 : w4.heap.size < w5.heap.size := by rw [← hw5]; simp
            clear hw5
            go_quiet (fail)
            have ho6 := (Upd.drewN Non w5 nq).owns ho5 fun _ _ h => h
            have hu6 : Upd Non w (w5.drewN nq) := hu5.then_drewN _
            have hq3 : w.heap.size ≤ w5.heap.size := hu5.size
            clear ho5
            go_wp2_with (at_builtin; go_must (refine wpList_app1n rfl _ _ 48 rfl w.heap.size 51 (.agg #[.string ⟨#[]⟩, .bool false]) 2 24 Try.underlying48 hie.out rfl _ _ _ rfl ho6 [.string ⟨xs.toArray⟩, .bool xb] w5.heap.size rfl rfl rfl (ec_one [(xs, xb)]) hq1 hq2 hq3 ?_))
            intro v7 w7 ho7 hu7 hf7
            obtain ⟨_, a7, c7, rfl, -⟩ := id (has_of_owns ho7)
            have hu7' := hu6.trans hu7 fun j hj h => absurd (own_ge ho6 h) (by omega)
            clear hf7 hu7 hu6 ho6 hq1 hq2 hq3
            go_wp2_with fail
            go_roundw
            case rel =>
              exact ⟨k + 1, [(xs, xb)], by go_num, by omega, by simp, ho7, htk, hu7'⟩
            case measure => simp [intOf]; omega
          · have hL9 : 0 < L.length := by omega
            obtain ⟨_, _, e, hat5⟩ := ents_at (v := .slice oa L.length oc) (l := L) (by have := has_of_owns ho5; unfold EntsAt; rw [← hln] at this; exact this)
            injection e with e1 e2 e3
            subst e1
            clear e2 e3
            obtain ⟨g5, o5, rfl, y0, y1⟩ := hat5 (L.length - 1) (by omega)
            rw [← hlast hL9] at y0 y1
            obtain ⟨ls, hls⟩ : ∃ ls, lastE a L = ls := ⟨_, rfl⟩
            rw [hls] at y0 y1 htake hskip
            obtain ⟨ls, lb⟩ := ls
            rw [hln] at y0 y1
            unfold txtV at y0
            simp only at y0 y1
            have z1 : ((ln : Int) == 0) = false := by simp; omega
            have z2 : (ln = 0) = False := eq_false hL0
            have z3 : ((ln : Int) = 0) = False := eq_false (by omega)
            have z4 := Lib.hid (IntWalk.i64_in ((ln : Int) - 1) ⟨by omega, by omega⟩)
            have z5 := Lib.hid (IntWalk.wrap64_in ((ln : Int) - 1) ⟨by omega, by omega⟩)
            have z6 : ((ln : Int) - 1).toNat = ln - 1 := by omega
            have z7 : (0 : Int) ≤ (ln : Int) - 1 := by omega
            have z8 : (ln : Int) - 1 < (ln : Int) := by omega
            by_cases hsame : (xs, xb) = (ls, lb)
            · have hsk3 := hskip.out hsame
              obtain ⟨rfl, rfl⟩ := Prod.mk.inj hsame
              replace hsk3 := Lib.hid hsk3
              clear htake hfirst hskip hlast hat5 hsame hq1 hq2
              go_wp2_with fail
              obtain ⟨w5, hw5⟩ : ∃ w5, w4.alloc (.cells #[.string ⟨xs.toArray⟩, .bool xb] 51) = w5 := ⟨_, rfl⟩
              rw [hw5] at ho5 hu5 x0 x1 y0 y1 ⊢
              clear hw5
              replace hL0 := Lib.hid hL0
              replace z4 := z4.out
              replace z5 := z5.out
              go_quiet (fail)
              have ho6 := (Upd.drewN Non w5 nq).owns ho5 fun _ _ h => h
              have hu6 : Upd Non w (w5.drewN nq) := hu5.then_drewN _
              clear z4 z5 ho5 hu5
              go_wp2_with fail
              go_roundw
              case rel => exact ⟨k + 1, L, by go_num, by omega, by omega, by rw [hln]; exact ho6, Lib.hid (by rw [hls, ← hsk3.out, ← hls]; exact hE.out), hu6⟩
              case measure => simp [intOf]; omega
            · have htk := Lib.hid (htake.out hsame)
              have hcase : ((xs = ls) = False ∧ (xs == ls) = false ∧ (ls = xs) = False ∧ (ls == xs) = false) ∨ xs = ls ∧ (xb = lb) = False ∧ (xb == lb) = false ∧ (lb = xb) = False ∧ (lb == xb) = false := by
                by_cases h1 : xs = ls
                · refine .inr ⟨h1, ?_⟩
                  have h2 : xb ≠ lb := fun h2 => hsame (by rw [h1, h2])
                  exact ⟨eq_false h2, by simp [h2], eq_false (fun e => h2 e.symm), by simp; exact fun e => h2 e.symm⟩
                · exact .inl ⟨eq_false h1, by simp [h1], eq_false (fun e => h1 e.symm), by simp; exact fun e => h1 e.symm⟩
              clear htake hfirst hskip hlast hat5 hsame
              rcases hcase with ⟨g1, g2, g3, g4⟩ | ⟨rfl, g1, g2, g3, g4⟩
              all_goals
                go_wp2_with fail
                obtain ⟨w5, hw5⟩ : ∃ w5, w4.alloc (.cells #[.string ⟨xs.toArray⟩, .bool xb] 51) = w5 := ⟨_, rfl⟩
                rw [hw5] at ho5 hu5 x0 x1 y0 y1 ⊢
                clear hw5
                replace hL0 := Lib.hid hL0
                replace z4 := z4.out
                replace z5 := z5.out
                go_quiet (fail)
                have ho6 := (Upd.drewN Non w5 nq).owns ho5 fun _ _ h => h
                have hu6 : Upd Non w (w5.drewN nq) := hu5.then_drewN _
                have hq3 : w.heap.size ≤ w5.heap.size := hu5.size
                clear z4 z5 ho5
                go_wp2_with (at_builtin; go_must (refine wpList_app1n rfl _ _ 48 rfl w.heap.size 51 (.agg #[.string ⟨#[]⟩, .bool false]) 2 24 Try.underlying48 hie.out rfl _ _ _ rfl ho6 [.string ⟨xs.toArray⟩, .bool xb] w5.heap.size rfl rfl rfl (ec_one [(xs, xb)]) hq1 hq2 hq3 ?_))
                intro v7 w7 ho7 hu7 hf7
                obtain ⟨_, a7, c7, rfl, -⟩ := id (has_of_owns ho7)
                have hu7' := hu6.trans hu7 fun j hj h => absurd (own_ge ho6 h) (by omega)
                clear hf7 hu7 hu6 ho6 hq1 hq2 hq3
                go_wp2_with fail
                go_roundw
                case rel =>
                  refine ⟨k + 1, L ++ [(xs, xb)], by go_num, by omega, by simp; omega, ?_, htk, hu7'⟩
                  rw [ec_append, List.length_append, hln]; exact ho7
                case measure => simp [intOf]; omega
      · have hbg' : begins s p = false := by simpa using hbg
        rw [hbg'] at cB
        have hsk2 := Lib.hid (ents_skip (p := p) (d := d) (a := a) (last := lastE a L) hkl (by rw [hsk]; exact .inl hbg'))
        go_wp2_with fail
        refine (cB.out _).mono ?_
        rintro e w2 ⟨rfl, hu2⟩
        have ho2 := hu2.owns ho fun _ _ h => h
        have hu2' := hu.trans hu2 fun _ _ h => h
        clear hu2 ho hu hx cB
        simp only []
        go_wp2_with fail
        go_roundw
        case rel => exact ⟨k + 1, L, by go_num, by omega, by omega, by rw [hln]; exact ho2, Lib.hid (by rw [← hsk2.out]; exact hE.out), hu2'⟩
        case measure => simp [intOf]; omega
    · obtain rfl : k = n := by omega
      have hkn' : ¬ (k : Int) < (k : Int) := by omega
      have hend : ents p d a l = L := by
        rw [hE.out, List.drop_of_length_le (by omega), entsFrom, List.append_nil]
      have hR' := hR.out
      rw [hend] at hR'
      have hfin : R (.returned (.slice oa ln oc)) wr := by
        rw [hR']
        refine ⟨_, rfl, ?_, hu, fun k hk => ⟨own_ge ho hk, own_lt ho hk⟩⟩
        have := has_of_owns ho
        unfold EntsAt
        rw [hln]; exact this
      clear hR' hend hE hR ho hu hln hkn
      go_wp2_with fail
      exact hfin
end Go.Proofs.Ytphdclafeijpnaa
