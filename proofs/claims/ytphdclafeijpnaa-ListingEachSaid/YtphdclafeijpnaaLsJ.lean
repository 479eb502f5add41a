/- listing.Page where it may be asked so. -/
import Derived.Test.YtphdclafeijpnaaLsI
import Derived.Deep.QuietTactic
import Derived.Test.YtphdclafeijpnaaLibG
import Derived.RegionIn
namespace Go.Proofs.Ytphdclafeijpnaa
open Go.RowKit Go.Amb Go.Shelf
set_option linter.unusedVariables false
set_option linter.unusedSimpArgs false
set_option maxRecDepth 100000
attribute [local go_sem] Oper.semAt_some
theorem size_listing : Hid ((Try.prog.info? 26).map (·.size) = some 4) := Lib.hid (by kernel_rfl)
def lastS (E : List Ent) (i : Nat) : Str := if i = 0 then [] else (E.getD (i - 1) ([], false)).1
theorem take_next {E : List Ent} {i : Nat} {x : Ent} (hx : E[i]? = some x) : E.take (i + 1) = E.take i ++ [x] := by
  obtain ⟨h1, rfl⟩ := List.getElem?_eq_some_iff.1 hx
  exact List.take_succ_eq_append_getElem h1
theorem lastS_next {E : List Ent} {i : Nat} {x : Ent} (hx : E[i]? = some x) : lastS E (i + 1) = x.1 := by
  unfold lastS
  rw [if_neg (by omega), Nat.add_sub_cancel, List.getD_eq_getElem?_getD, hx]; rfl
theorem page_all {E : List Ent} {M : Nat} (h : E.length ≤ M) : pageOf E M = ⟨namesOf (E.take E.length), prefsOf (E.take E.length), [], false⟩ := by
  unfold pageOf
  rw [List.take_of_length_le h, List.take_length, if_neg (by omega)]
  simp; omega
theorem page_more {E : List Ent} {M : Nat} (h : M < E.length) (h1 : 1 ≤ M) : pageOf E M = ⟨namesOf (E.take M), prefsOf (E.take M), lastS E M, true⟩ := by
  unfold pageOf lastS
  rw [if_pos h, if_neg (by omega)]
  simp [h]
/-- The two rows of a page in the making. -/
structure PgO (B : Nat) (W : World) (nv pv : Value) (l : List Ent) : Prop where
  n : W.ownsRow B 9 1 nv (namesOf l).length ((namesOf l).map txtV)
  p : W.ownsRow B 9 1 pv (prefsOf l).length ((prefsOf l).map txtV)
  a : ∀ k, At nv k → ¬ At pv k
theorem PgO.same {B : Nat} {W W' : World} {nv pv : Value} {l : List Ent} (h : PgO B W nv pv l) (hs : ∀ k, B ≤ k → k < W.heap.size → W'.heap[k]? = W.heap[k]?) : PgO B W' nv pv l :=
  ⟨owns_heap h.n fun k hk => hs k (own_ge h.n hk) (own_lt h.n hk), owns_heap h.p fun k hk => hs k (own_ge h.p hk) (own_lt h.p hk), h.a⟩
theorem PgO.txts {B : Nat} {W : World} {nv pv : Value} {l : List Ent} (h : PgO B W nv pv l) : Txts W nv (namesOf l) ∧ Txts W pv (prefsOf l) := ⟨has_of_owns h.n, has_of_owns h.p⟩
/-- How a page in the making stands behind i entries. -/
structure PgI (E : List Ent) (M z : Nat) (w5 : World) (i : Nat) (W : World) : Prop where
  upd : Upd (fun k => k = z ∨ k = z + 1 ∨ k = z + 2) w5 W
  le : i ≤ M
  nb : W.heap[z + 1]? = some (.cells #[.int .i64 (i : Int)] 3 (0, 0))
  lb : W.heap[z + 2]? = some (.cells #[.string ⟨(lastS E i).toArray⟩] 9 (0, 0))
  out : ∃ nv pv, W.heap[z]? = some (.cells #[nv, pv, .string ⟨#[]⟩, .bool false] 26 (0, 0)) ∧ PgO (w5.heap.size + 3) W nv pv (E.take i)
theorem PgI.next {E : List Ent} {M z : Nat} {w5 : World} {i : Nat} {W W' : World} (h : PgI E M z w5 i W) (hz : z + 2 < w5.heap.size) (hu : Upd (fun k => k = w5.heap.size + 2) W W') : PgI E M z w5 i W' := by
  obtain ⟨nv, pv, ho, hp⟩ := h.out
  exact ⟨h.upd.trans hu fun k hk e => by omega, h.le, hu.heap h.nb (by omega), hu.heap h.lb (by omega), nv, pv, hu.heap ho (by omega), hp.same fun k hB hk => hu.block k hk (by omega)⟩
theorem PgI.put {E : List Ent} {M z : Nat} {w5 : World} {i : Nat} {W : World} (h : PgI E M z w5 i W) (hz : z + 2 < w5.heap.size) {l : Nat} (o : Obj) (h1 : w5.heap.size ≤ l) (h2 : l < w5.heap.size + 2) : PgI E M z w5 i (W.putObj l o) := by
  obtain ⟨nv, pv, ho, hp⟩ := h.out
  exact ⟨h.upd.put h1 o, h.le, (World.putObj_heap_other (by omega)).trans h.nb, (World.putObj_heap_other (by omega)).trans h.lb, nv, pv, (World.putObj_heap_other (by omega)).trans ho, hp.same fun k hB hk => World.putObj_heap_other (by omega)⟩
/-- .. and where there are more. -/
structure PgX (E : List Ent) (M z : Nat) (w5 : World) (c : Code) (i : Nat) (W : World) : Prop where
  c : c = .exit 2
  i : i = M
  upd : Upd (fun k => k = z ∨ k = z + 1 ∨ k = z + 2) w5 W
  out : ∃ nv pv, W.heap[z]? = some (.cells #[nv, pv, .string ⟨(lastS E M).toArray⟩, .bool true] 26 (0, 0)) ∧ PgO (w5.heap.size + 3) W nv pv (E.take M)
theorem PgX.put {E : List Ent} {M z : Nat} {w5 : World} {c : Code} {i : Nat} {W : World} (h : PgX E M z w5 c i W) (hz : z + 2 < w5.heap.size) {l : Nat} (o : Obj) (h1 : w5.heap.size ≤ l) (h2 : l < w5.heap.size + 2) : PgX E M z w5 c i (W.putObj l o) := by
  obtain ⟨nv, pv, ho, hp⟩ := h.out
  exact ⟨h.c, h.i, h.upd.put h1 o, nv, pv, (World.putObj_heap_other (by omega)).trans ho, hp.same fun k hB hk => World.putObj_heap_other (by omega)⟩
def AxE (E : List Ent) (B0 : Nat) (a : Act) (i : Nat) (a' : Act) (W : World) : Prop :=
  ∃ B xs xb, B0 ≤ B ∧ E[i]? = some (xs, xb) ∧ W.heap[B]? = some (.cells #[.string ⟨xs.toArray⟩, .bool xb] 47 (0, 0)) ∧
    a' = { tmps := (a.tmps.setIfInBounds 53 (.agg #[.string ⟨xs.toArray⟩, .bool xb])).setIfInBounds 17 (.pointer (some ⟨B, 0, none⟩)), defers := [] }
set_option maxHeartbeats 4000000 in
theorem lPageOk (nv : Value) (l : List Str) (p d a : Str) (m : Int) (w : World) (hT : Txts w nv l) (hlt : ∀ k, At nv k → k < w.heap.size) (hn : l.length ≤ 500) (hs : ∀ s ∈ l, s.length ≤ 140737488355328) (hc : ckOk p d a m) :
    Calls Try.prog 9 #[nv, txtV p, txtV d, txtV a, .int .i64 m] w (PageRetN w (page p d a m l) (pageE p d a m l)) := by
  have cC := Lib.hid (fun w => lCheck p d a m w (by have := hc.2.2.2.1; omega))
  have e2 : ck p d a m = 0 := by unfold ck; rw [if_pos hc]
  rw [e2] at cC
  obtain ⟨R, hR⟩ : ∃ R, R = PageRetN w (page p d a m l) (pageE p d a m l) := ⟨_, rfl⟩
  rw [← hR]
  replace hR := Lib.hid hR
  obtain ⟨va, vc, rfl, -⟩ := txts_at hT
  obtain ⟨n, hnn⟩ : ∃ n, l.length = n := ⟨_, rfl⟩
  have hT' : Txts w (.slice va n vc) l := by rw [← hnn]; exact hT
  rw [hnn] at hn hlt ⊢
  replace hT' := Lib.hid hT'
  replace hc := Lib.hid hc
  replace hlt := Lib.hid hlt
  replace hs := Lib.hid hs
  have hs4 := size_listing
  clear hT e2
  unfold txtV at *
  refine (callsIn_wide (n := 5)).1 (callsIn_of_wp_marks Try.func9 rfl trivial (wpIn_wide.2 ?_) rfl)
  simp only [Try.ntmps9, List.size_toArray, List.length_cons, List.length_nil, Nat.reduceAdd, Nat.reduceSub, Array.replicate_succ, Array.replicate_zero, List.push_toArray, List.append_toArray, List.nil_append, List.cons_append]
  go_wp2_with fail
  refine (cC.out _).mono ?_
  rintro e w1 ⟨rfl, hu1⟩
  have hU1 := (((Upd.refl Non w).then_alloc (.cells #[.int .i64 m] 3)).then_alloc (.cells #[.slice none 0 0, .slice none 0 0, .string ⟨#[]⟩, .bool false] 26)).trans hu1 fun _ _ h => h
  have hb1 := hu1.heap (heap_alloc2_new w (.cells #[.int .i64 m] 3) (.cells #[.slice none 0 0, .slice none 0 0, .string ⟨#[]⟩, .bool false] 26)) fun h => h
  have hm1 := hu1.heap (heap_alloc2_old w (.cells #[.int .i64 m] 3) (.cells #[.slice none 0 0, .slice none 0 0, .string ⟨#[]⟩, .bool false] 26)) fun h => h
  replace hU1 := Lib.hid hU1
  replace hb1 := Lib.hid hb1
  replace hm1 := Lib.hid hm1
  clear hu1 cC
  simp only []
  go_wp2_with fail
  go_loopw [29] (fun iv wr => ∃ k : Nat, iv = .int .i64 (k : Int) ∧ k ≤ n ∧ Hid (risTo l k) ∧ Upd Non w1 wr) (fun iv _ => n - (intOf iv).toNat)
  case atStart => exact ⟨0, rfl, by omega, Lib.hid (fun i h h' => by omega), Upd.refl _ _⟩
  case round =>
    obtain ⟨k, rfl, hk, hr, hu⟩ := hrel
    by_cases hkn : k < n
    · have hkn' : (k : Int) < (n : Int) := by omega
      have hk0 : (0 : Int) ≤ (k : Int) := by omega
      have hkl : k < l.length := by omega
      obtain ⟨_, _, e, hat⟩ := txts_at ((hT'.out.non hU1.out).non hu)
      injection e with e1 e2 e3
      subst e1
      clear e2 e3
      by_cases hz : k = 0
      · subst hz
        have hr1 := Lib.hid (hr.out.next (fun h _ => absurd h (by omega)))
        clear hat
        have h0 : ((0 : Int) < ((0 : Nat) : Int)) = False := eq_false (by omega)
        go_wp2_with fail
        go_quiet (fail)
        go_wp2_with fail
        go_roundw
        case rel => exact ⟨1, by go_num, by omega, Lib.hid hr1.out, hu.then_drewN _⟩
        case measure => simp [intOf]; omega
      · obtain ⟨g, off, rfl, hx⟩ := hat k hkl
        obtain ⟨g', off', e, hy⟩ := hat (k - 1) (by omega)
        injection e with e
        injection e with e1 e2
        subst e1
        subst e2
        obtain ⟨y, hye⟩ : ∃ y, l[k - 1] = y := ⟨_, rfl⟩
        obtain ⟨x, hxe⟩ : ∃ x, l[k] = x := ⟨_, rfl⟩
        rw [hye] at hy
        rw [hxe] at hx
        unfold txtV at hx hy
        have hw1 := IntWalk.i64_in ((k : Int) - 1) ⟨by omega, by omega⟩
        have hw2 := IntWalk.wrap64_in ((k : Int) - 1) ⟨by omega, by omega⟩
        have hwn : ((k : Int) - 1).toNat = k - 1 := by omega
        have hw0 : (0 : Int) ≤ (k : Int) - 1 := by omega
        have hw9 : (k : Int) - 1 < (n : Int) := by omega
        have h0 : (0 : Int) < (k : Int) := by omega
        have h0n : 0 < k := by omega
        by_cases hle : Op.bytesLess y x = true
        · have hr1 := Lib.hid (hr.out.next (fun _ _ => by rw [hye, hxe]; exact hle))
          have hq1 : Op.bytesLess x y = false := bl_asymm y x hle
          have hne : y ≠ x := less_ne hle
          have hq2 : (y = x) = False := eq_false hne
          have hq3 : (y == x) = false := by simp [hne]
          have hq4 : (x = y) = False := eq_false (fun e => hne e.symm)
          have hq5 : (x == y) = false := by simp [hq4]
          replace hz := Lib.hid hz
          replace hye := Lib.hid hye
          replace hxe := Lib.hid hxe
          clear hat hne
          go_wp2_with fail
          go_quiet (fail)
          go_wp2_with fail
          go_roundw
          case rel => exact ⟨k + 1, by go_num, by omega, Lib.hid hr1.out, hu.then_drewN _⟩
          case measure => simp [intOf]; omega
        · have hbad := rising_no k h0n hkl (by rw [hye, hxe]; simpa using hle)
          have hpE : pageE p d a m l = 4 := by unfold pageE; rw [if_pos hc.out, if_neg hbad]
          have hpP : page p d a m l = Pg.none := by unfold page; rw [if_neg (fun h => hbad h.2)]
          have hR' := hR.out
          rw [hpE, hpP] at hR'
          replace hR' := Lib.hid hR'
          have hle' : Op.bytesLess y x = false := by simpa using hle
          have hX := hu.heap hb1.out fun h => h
          replace hz := Lib.hid hz
          replace hye := Lib.hid hye
          replace hxe := Lib.hid hxe
          have hU := hU1.out.trans hu fun _ _ h => h
          have hbr : w.heap.size + 1 < wr.heap.size := heap_lt hX
          have hcase : y = x ∨ ((y = x) = False ∧ (y == x) = false ∧ (x = y) = False ∧ (x == y) = false ∧ Op.bytesLess x y = true) := by
            by_cases e : y = x
            · exact .inl e
            · exact .inr ⟨eq_false e, by simp [e], eq_false (fun h => e h.symm), by simp; exact fun h => e h.symm, bl_total y x e hle'⟩
          clear hat hle hpE hpP hbad
          have hfin : ∀ w2 w3, Upd Non wr w2 → w3.heap[w.heap.size + 1]? = some (.cells #[.slice none 0 0, .slice none 0 0, .string ⟨#[]⟩, .bool false] 26 (0, 0)) → Upd (fun k => k = w.heap.size + 1) w2 w3 → Upd Non w w3 := fun w2 w3 h1 _ h2 => (hU.trans h1 fun _ _ h => h).trans h2 fun k hk e => by omega
          replace hfin := Lib.hid hfin
          rcases hcase with rfl | ⟨q1, q2, q3, q4, q5⟩
          all_goals
            go_wp2_with fail
            go_quiet (fail)
            go_wp2_with (refine storeB_list rfl 26 _ _ rfl (w.heap.size + 1) #[.slice none 0 0, .slice none 0 0, .string ⟨#[]⟩, .bool false] _ _ rfl rfl ((Upd.drewN Non _ _).heap hX fun h => h) rfl hs4.out (by simp [Value.oneCell']) ?_)
            intro w3 hb3 hu3
            have hU3 := hfin.out _ w3 (Upd.drewN Non _ _) hb3 hu3
            have x0 := (cells_of hb3).1 0
            have x1 := (cells_of hb3).1 1
            have x2 := (cells_of hb3).1 2
            have x3 := (cells_of hb3).1 3
            clear hb3 hu3 hX hfin
            go_wp2_with fail
            refine ⟨.tuple #[.agg #[.slice none 0 0, .slice none 0 0, .string ⟨#[]⟩, .bool false], .int .i64 4], by simp [results, Try.results9, go_sem, x0, x1, x2, x3]; try rfl, ?_⟩
            rw [hR'.out]
            exact ⟨_, rfl, pg_none _, hU3, pgNew_none _ _ _ _⟩
    · obtain rfl : k = n := by omega
      have hkn' : ¬ (k : Int) < (k : Int) := by omega
      have hris : rising l := fun i hi => hr.out i hi (by omega)
      have hpE : pageE p d a m l = 0 := by unfold pageE; rw [if_pos hc.out, if_pos hris]
      have hpP : page p d a m l = pageOf (ents p d a l) m.toNat := by unfold page; rw [if_pos ⟨hc.out, hris⟩]
      have hR' := hR.out
      rw [hpE, hpP] at hR'
      replace hR' := Lib.hid hR'
      clear hpE hpP hris hr hR
      have hUw := Lib.hid (hU1.out.trans hu fun _ _ h => h)
      have hmw := Lib.hid (hu.heap hm1.out fun h => h)
      have hbw := Lib.hid (hu.heap hb1.out fun h => h)
      have hz0 : w.heap.size + 1 < wr.heap.size := heap_lt hbw.out
      clear hU1 hm1 hb1 hu
      obtain ⟨z, hz⟩ : ∃ z, wr.heap.size = z := ⟨_, rfl⟩
      have cE := Lib.hid (fun w' (hu : Upd Non w w') => lEntries (.slice va k vc) l p d a w' (hT'.out.non hu) (fun j hj => by have := hlt.out j hj; have := hu.size; omega))
      unfold txtV at cE
      go_wp2_with fail
      have ha1 := heap_alloc_new wr (.cells #[.slice none 0 0, .slice none 0 0, .string ⟨#[]⟩, .bool false] 26)
      have ha2 := heap_alloc_new (wr.alloc (.cells #[.slice none 0 0, .slice none 0 0, .string ⟨#[]⟩, .bool false] 26)) (.cells #[.int .i64 0] 3)
      have ha3 := heap_alloc_new ((wr.alloc (.cells #[.slice none 0 0, .slice none 0 0, .string ⟨#[]⟩, .bool false] 26)).alloc (.cells #[.int .i64 0] 3)) (.cells #[.string ⟨#[]⟩] 9)
      have u1 := fun (w : World) (o : Obj) => Upd.alloc Non w o
      simp only [World.size_alloc, hz] at ha1 ha2 ha3
      have hb2 := Upd.block_at (u1 _ (.cells #[.string ⟨#[]⟩] 9)) ha2
      have hb3 := Upd.block_at (u1 _ (.cells #[.string ⟨#[]⟩] 9)) (Upd.block_at (u1 _ (.cells #[.int .i64 0] 3)) ha1)
      have hu4 : Upd Non wr (((wr.alloc (.cells #[.slice none 0 0, .slice none 0 0, .string ⟨#[]⟩, .bool false] 26)).alloc (.cells #[.int .i64 0] 3)).alloc (.cells #[.string ⟨#[]⟩] 9)) := by (repeat (first | (with_reducible exact Upd.refl _ _) | (with_reducible assumption) | (with_reducible refine Upd.then_drew ?_) | (with_reducible refine Upd.then_drewN ?_ _) | (with_reducible refine Upd.then_alloc ?_ _) | (with_reducible refine Upd.then_setCell ?_ (fun h => absurd h (by simp <;> omega)) _) | (with_reducible refine Upd.trans ?_ (Upd.non (by assumption)) (fun _ _ h => h))))
      have hz4 : (((wr.alloc (.cells #[.slice none 0 0, .slice none 0 0, .string ⟨#[]⟩, .bool false] 26)).alloc (.cells #[.int .i64 0] 3)).alloc (.cells #[.string ⟨#[]⟩] 9)).heap.size = z + 3 := by simp [hz]
      generalize (((wr.alloc (.cells #[.slice none 0 0, .slice none 0 0, .string ⟨#[]⟩, .bool false] 26)).alloc (.cells #[.int .i64 0] 3)).alloc (.cells #[.string ⟨#[]⟩] 9)) = w4 at *
      refine (cE.out w4 (hUw.out.trans hu4 fun _ _ h => h)).mono ?_
      rintro en w5 ⟨rfl, hEnt, hu5, hz5⟩
      have hb2 := Upd.block_at hu5 hb2
      have hb3 := Upd.block_at hu5 hb3
      have ha3 := Upd.block_at hu5 ha3
      rw [hz4] at hz5 hEnt
      have hu5w := Lib.hid (hu4.trans hu5 fun _ _ h => h)
      clear ha1 ha2 u1 hu4 hu5 cE
      obtain ⟨M, hM⟩ : ∃ M : Nat, m = (M : Int) := ⟨m.toNat, by have := hc.out.2.2.2.1; omega⟩
      subst hM
      have hM1 : 1 ≤ M := by have := hc.out.2.2.2.1; omega
      have hmw5 := Lib.hid (hu5w.out.heap hmw.out fun h => h)
      have hbw5 := Lib.hid (hu5w.out.heap hbw.out fun h => h)
      replace hb2 := Lib.hid hb2
      replace hb3 := Lib.hid hb3
      replace ha3 := Lib.hid ha3
      replace hEnt := Lib.hid hEnt
      obtain ⟨E, hE⟩ : ∃ E, ents p d a l = E := ⟨_, rfl⟩
      have hit := iter_ents hEnt.out hc.out.2.1 (by omega) hs.out
      rw [hE] at hit
      have hEl : E.length ≤ 500 := by rw [← hE]; exact Nat.le_trans (entsFrom_le _ _ _ _ _) (by omega)
      rw [hz4]
      have hlt5 : ∀ j, EntK (z + 3) (z + 3 + 1) (z + 3 + 2) (z + 3 + 3) (.slice va k vc) j → j < w5.heap.size := by
        rintro j (rfl | rfl | rfl | rfl | hj)
        · omega
        · omega
        · omega
        · omega
        · have := hlt.out j hj; omega
      go_wp2_with fail
      refine wp_rangeN (gf := 25) (lb := #[.pointer (some ⟨z + 3 + 3, 0, none⟩), .pointer (some ⟨z + 3, 0, none⟩), .pointer (some ⟨z + 3 + 1, 0, none⟩), .pointer (some ⟨z + 3 + 2, 0, none⟩)]) rfl (enters_of Try.func25 (by kernel_rfl) rfl) hit hlt5 (fun _ => rfl)
        (PgI E M z w5) (PgX E M z w5) (fun i W W' h hu => h.next (by omega) hu) (fun i W l o h1 h2 h => h.put (by omega) o h1 h2) (fun c i W l o h1 h2 h => h.put (by omega) o h1 h2)
        ⟨Upd.refl _ _, by omega, hb2.out, ha3.out, _, _, hb3.out, World.ownsRow_nil _ _ _ _, World.ownsRow_nil _ _ _ _, fun k hk => by simp [At, Value.ownBlock] at hk⟩
        (AxE E (w5.heap.size + 3)) (fun i a' W l o h1 h2 ⟨B, xs, xb, hB, he, hr, ha⟩ => ⟨B, xs, xb, hB, he, (World.putObj_heap_other (by omega)).trans hr, ha⟩) ?assign ?body ?done ?stop
      case assign =>
        intro y i hi W Q' hW hI hQ
        obtain ⟨⟨xs, xb⟩, hx⟩ : ∃ x, E[i] = x := ⟨_, rfl⟩
        rw [hx]
        have hQ2 := hQ { tmps := _, defers := [] } (W.alloc (.cells #[.string ⟨xs.toArray⟩, .bool xb] 47)) (Below.refl _ _ |>.alloc (Nat.le_refl _) _) (hI.next (by omega) (Upd.alloc _ _ _)) ⟨W.heap.size, xs, xb, by omega, by rw [List.getElem?_eq_getElem hi, hx], heap_alloc_new _ _, rfl⟩
        unfold encE entV txtV
        dsimp only
        gi_wp2
        exact hQ2
      case body =>
        rintro y i hi a' W hW hI ⟨B, xs, xb, hB, hx, hrow, rfl⟩
        simp only [List.setIfInBounds_toArray, List.set_cons_zero, List.set_cons_succ]
        obtain ⟨nv, pv, hout, hO⟩ := id hI.out
        have hm5 : W.heap[w.heap.size]? = some (.cells #[.int .i64 (M : Int)] 3 (0, 0)) := hI.upd.heap hmw5.out (by omega)
        have c0 : W.cell? ⟨w.heap.size, 0, none⟩ = some (.int .i64 (M : Int)) := (cells_of hm5).1 0
        have c1 : W.cell? ⟨z + 1, 0, none⟩ = some (.int .i64 (i : Int)) := (cells_of hI.nb).1 0
        have f1 : W.frozen? ⟨z + 1, 0, none⟩ = false := (cells_of hI.nb).2 0
        have c2 : W.cell? ⟨z + 1 + 1, 0, none⟩ = some (.string ⟨(lastS E i).toArray⟩) := (cells_of hI.lb).1 0
        have f2 : W.frozen? ⟨z + 1 + 1, 0, none⟩ = false := (cells_of hI.lb).2 0
        have o0 : W.cell? ⟨z, 0, none⟩ = some nv := (cells_of hout).1 0
        have o1 : W.cell? ⟨z, 1, none⟩ = some pv := (cells_of hout).1 1
        have o2 : W.cell? ⟨z, 2, none⟩ = some (.string ⟨#[]⟩) := (cells_of hout).1 2
        have o3 : W.cell? ⟨z, 3, none⟩ = some (.bool false) := (cells_of hout).1 3
        have g0 : ∀ j, W.frozen? ⟨z, j, none⟩ = false := (cells_of hout).2
        have r0 : W.cell? ⟨B, 0, none⟩ = some (.string ⟨xs.toArray⟩) := (cells_of hrow).1 0
        have r1 : W.cell? ⟨B, 1, none⟩ = some (.bool xb) := (cells_of hrow).1 1
        have hiM := hI.le
        by_cases hMi : i = M
        · subst hMi
          have e1 : ((i : Int) == (i : Int)) = true := by simp
          have hXX : KeepsOthers W (((W.setCell ⟨z, 3, none⟩ (.bool true)).setCell ⟨z, 2, none⟩ (.string ⟨(lastS E i).toArray⟩)).drew) ∧ PgX E i z w5 (.exit 2) i (((W.setCell ⟨z, 3, none⟩ (.bool true)).setCell ⟨z, 2, none⟩ (.string ⟨(lastS E i).toArray⟩)).drew) := by
            have hb := set_blk (j := 2) (v := .string ⟨(lastS E i).toArray⟩) (set_blk (j := 3) (v := .bool true) hout)
            refine ⟨((KeepsOthers.setCell _ _ _).trans (KeepsOthers.setCell _ _ _)).trans (KeepsOthers.drew _), rfl, rfl, ((hI.upd.then_setCell (p := ⟨z, 3, none⟩) (fun _ => .inl rfl) _).then_setCell (p := ⟨z, 2, none⟩) (fun _ => .inl rfl) _).then_drew, nv, pv, hb, hO.same fun j hB hj => ?_⟩
            exact (Below.heap_setCell _ _ _ _ (by show j ≠ z; omega)).trans (Below.heap_setCell _ _ _ _ (by show j ≠ z; omega))
          gi_wp2
          gi_region
          all_goals
            gi_wp2
            exact hXX
        · have hiM2 : i < M := by omega
          have e1 : ((i : Int) == (M : Int)) = false := by simp; omega
          have hM50 : (M : Int) ≤ 50 := hc.out.2.2.2.2
          have hw1 := Lib.hid (IntWalk.i64_in ((i : Int) + 1) ⟨by omega, by omega⟩)
          have hw2 := Lib.hid (IntWalk.wrap64_in ((i : Int) + 1) ⟨by omega, by omega⟩)
          have ets := take_next hx
          have els := lastS_next hx
          have hsW := Lib.hid (show W.heap.size = (W.setCell ⟨z + 1, 0, none⟩ (.int .i64 ((i : Int) + 1))).heap.size by simp [World.setCell])
          have hu6 : Upd (fun j => j = z + 1) W (W.setCell ⟨z + 1, 0, none⟩ (.int .i64 ((i : Int) + 1))) := Upd.setCell (S := fun j => j = z + 1) W (a := ⟨z + 1, 0, none⟩) rfl _
          have hKO6 := KeepsOthers.setCell W ⟨z + 1, 0, none⟩ (.int .i64 ((i : Int) + 1))
          have hO6 : PgO (w5.heap.size + 3) (W.setCell ⟨z + 1, 0, none⟩ (.int .i64 ((i : Int) + 1))) nv pv (E.take i) := hO.same fun j hB hj => hu6.block j hj (by omega)
          have hout6 := hu6.heap hout (by omega)
          have hlb6 := hu6.heap hI.lb (by omega)
          have hnb6 := set_blk (j := 0) (v := .int .i64 ((i : Int) + 1)) hI.nb
          have hz6 := hu6.size
          have hBz : B ≠ z ∧ B ≠ z + 1 ∧ B ≠ z + 2 := by omega
          have r06 : (W.setCell ⟨z + 1, 0, none⟩ (.int .i64 ((i : Int) + 1))).cell? ⟨B, 0, none⟩ = some (.string ⟨xs.toArray⟩) := hu6.cell r0 (by show ¬ B = z + 1; omega)
          have hinf := Lib.hid (show (Try.prog.info? 9).map (fun i => (i.zero, i.size, i.bytes)) = some (some (.string ⟨#[]⟩), 1, 16) from rfl)
          have hrow6 := hu6.heap hrow (by omega)
          cases xb with
          | false =>
            have hown := hO6.n
            obtain ⟨ln, hln⟩ : ∃ ln, (namesOf (E.take i)).length = ln := ⟨_, rfl⟩
            rw [hln] at hown
            have hln5 : ln ≤ 500 := by
              have h1 := namesOf_le (E.take i)
              rw [List.length_take] at h1; omega
            have q1 : ln + 1 ≤ maxLen := by unfold maxLen; omega
            have q2 : (ln + 1) * 16 ≤ 140737488355328 := by omega
            have q3 : w5.heap.size + 3 ≤ (W.setCell ⟨z + 1, 0, none⟩ (.int .i64 ((i : Int) + 1))).heap.size := by omega
            replace hw1 := hw1.out
            replace hw2 := hw2.out
            gi_wp2_with (gi_at_builtin; refine wpListIn_appB rfl _ _ 22 rfl (w5.heap.size + 3) 9 (.string ⟨#[]⟩) 1 16 Try.underlying22 hinf.out rfl _ _ _ rfl hown [.string ⟨xs.toArray⟩] W.heap.size rfl hsW.out rfl (txt_one [xs]) q1 q2 q3 ?_)
            clear hw1 hw2 q1 q2 q3
            intro v7 w7 ho7 hu7 hf7
            rw [show z + 3 + 4 + 3 = w5.heap.size + 3 by omega] at ho7
            have hvB : ∀ j, At nv j → w5.heap.size + 3 ≤ j := fun j hj => own_ge hown hj
            have hz7 := hu7.size
            have hout7 := hu7.heap hout6 fun h => by have := hvB _ h; omega
            have hlb7 := hu7.heap hlb6 fun h => by have := hvB _ h; omega
            have hnb7 := hu7.heap hnb6 fun h => by have := hvB _ h; omega
            have hoth : PgO (w5.heap.size + 3) w7 v7 pv (E.take (i + 1)) := by
              rw [ets]
              refine ⟨?_, ?_, ?_⟩
              · rw [namesOf_snoc]
                simp only [Bool.false_eq_true, if_false, List.length_append, List.map_append, List.length_cons, List.length_nil, Nat.zero_add, hln]
                exact ho7
              · rw [prefsOf_snoc]
                simp only [Bool.false_eq_true, if_false, List.append_nil]
                exact hu7.owns hO6.p fun j hj h => hO6.a j h hj
              · intro j h1 h2
                rcases hf7 j h1 with h | h
                · exact hO6.a j h h2
                · have := own_lt hO6.p h2; have := hsW.out; omega
            obtain ⟨n7, hn7⟩ : ∃ n7, ln + 1 = n7 := ⟨_, rfl⟩
            rw [hn7] at ho7
            obtain ⟨_, a7, c7, rfl, -⟩ := has_of_owns ho7
            have k0 := (cells_of hout7).1 0
            have kf := (cells_of hout7).2 0
            have l0 := (cells_of hlb7).1 0
            have lf := (cells_of hlb7).2 0
            have hUf : Upd (fun j => j = z ∨ j = z + 1 ∨ j = z + 2) w5 ((w7.setCell ⟨z, 0, none⟩ (.slice a7 n7 c7)).setCell ⟨z + 1 + 1, 0, none⟩ (.string ⟨xs.toArray⟩)) :=
              (((hI.upd.trans hu6 fun j hj e => .inr (.inl e)).trans hu7 fun j hj h => by have := hvB _ h; omega).then_setCell (p := ⟨z, 0, none⟩) (fun _ => .inl rfl) _).then_setCell (p := ⟨z + 1 + 1, 0, none⟩) (fun _ => .inr (.inr rfl)) _
            have hKO : KeepsOthers W ((w7.setCell ⟨z, 0, none⟩ (.slice a7 n7 c7)).setCell ⟨z + 1 + 1, 0, none⟩ (.string ⟨xs.toArray⟩)) :=
              ((hKO6.trans (hu7.othersB (own_cellsB hown))).trans (KeepsOthers.setCell _ _ _)).trans (KeepsOthers.setCell _ _ _)
            have hsame : ∀ j, j < W.heap.size → j ≠ z → j ≠ z + 1 → j ≠ z + 2 → ¬ At nv j → ((w7.setCell ⟨z, 0, none⟩ (.slice a7 n7 c7)).setCell ⟨z + 1 + 1, 0, none⟩ (.string ⟨xs.toArray⟩)).heap[j]? = W.heap[j]? := fun j hj h0 h1 h2 h3 =>
              (Below.heap_setCell _ _ _ _ (by show j ≠ z + 1 + 1; omega)).trans ((Below.heap_setCell _ _ _ _ h0).trans ((hu7.block j (by omega) h3).trans (hu6.block j hj h1)))
            have hfin := set_blk (j := 0) (v := .string ⟨xs.toArray⟩) (show (w7.setCell ⟨z, 0, none⟩ (.slice a7 n7 c7)).heap[z + 1 + 1]? = _ from (Below.heap_setCell _ _ _ _ (by show z + 1 + 1 ≠ z; omega)).trans hlb7)
            have hfo := (Below.heap_setCell (w7.setCell ⟨z, 0, none⟩ (.slice a7 n7 c7)) ⟨z + 1 + 1, 0, none⟩ (.string ⟨xs.toArray⟩) z (by show z ≠ z + 1 + 1; omega)).trans (set_blk (j := 0) hout7 (.slice a7 n7 c7))
            have hfn := (Below.heap_setCell (w7.setCell ⟨z, 0, none⟩ (.slice a7 n7 c7)) ⟨z + 1 + 1, 0, none⟩ (.string ⟨xs.toArray⟩) (z + 1) (by show z + 1 ≠ z + 1 + 1; omega)).trans ((Below.heap_setCell w7 ⟨z, 0, none⟩ (.slice a7 n7 c7) (z + 1) (by show z + 1 ≠ z; omega)).trans hnb7)
            have hall : KeepsOthers W ((w7.setCell ⟨z, 0, none⟩ (.slice a7 n7 c7)).setCell ⟨z + 1 + 1, 0, none⟩ (.string ⟨xs.toArray⟩)) ∧ Stay (EntK (z + 3) (z + 3 + 1) (z + 3 + 2) (z + 3 + 3) (.slice va k vc)) W ((w7.setCell ⟨z, 0, none⟩ (.slice a7 n7 c7)).setCell ⟨z + 1 + 1, 0, none⟩ (.string ⟨xs.toArray⟩)) ∧
                ((w7.setCell ⟨z, 0, none⟩ (.slice a7 n7 c7)).setCell ⟨z + 1 + 1, 0, none⟩ (.string ⟨xs.toArray⟩)).heap[w5.heap.size + 2]? = W.heap[w5.heap.size + 2]? ∧ PgI E M z w5 (i + 1) ((w7.setCell ⟨z, 0, none⟩ (.slice a7 n7 c7)).setCell ⟨z + 1 + 1, 0, none⟩ (.string ⟨xs.toArray⟩)) := by
              refine ⟨hKO, fun j hj => hsame j ?_ ?_ ?_ ?_ ?_, hsame _ hW (by omega) (by omega) (by omega) (fun h => by have := hvB _ h; omega), hUf, by omega, ?_, ?_, _, _, hfo, ?_⟩
              · have := hlt5 j hj; omega
              · rcases hj with h | h | h | h | h <;> first | omega | (have := hlt.out j h; omega)
              · rcases hj with h | h | h | h | h <;> first | omega | (have := hlt.out j h; omega)
              · rcases hj with h | h | h | h | h <;> first | omega | (have := hlt.out j h; omega)
              · intro h; have h1 := hvB _ h; have := hlt5 j hj; omega
              · rw [hfn]; congr 3
              · rw [show z + 2 = z + 1 + 1 by omega, hfin, els]; rfl
              · exact hoth.same fun j hB hj => (Below.heap_setCell _ _ _ _ (by show j ≠ z + 1 + 1; omega)).trans (Below.heap_setCell _ _ _ _ (by show j ≠ z; omega))
            have r07 : w7.cell? ⟨B, 0, none⟩ = some (.string ⟨xs.toArray⟩) := hu7.cell r06 (own_not hown hrow6 (by decide))
            clear hoth hUf hKO hsame hfin hfo hfn hf7 hu7 hout7 hlb7 hnb7 ho7 hown
            gi_wp2
            exact hall
          | true =>
            have hown := hO6.p
            obtain ⟨ln, hln⟩ : ∃ ln, (prefsOf (E.take i)).length = ln := ⟨_, rfl⟩
            rw [hln] at hown
            have hln5 : ln ≤ 500 := by
              have h1 := prefsOf_le (E.take i)
              rw [List.length_take] at h1; omega
            have q1 : ln + 1 ≤ maxLen := by unfold maxLen; omega
            have q2 : (ln + 1) * 16 ≤ 140737488355328 := by omega
            have q3 : w5.heap.size + 3 ≤ (W.setCell ⟨z + 1, 0, none⟩ (.int .i64 ((i : Int) + 1))).heap.size := by omega
            replace hw1 := hw1.out
            replace hw2 := hw2.out
            gi_wp2_with (gi_at_builtin; refine wpListIn_appB rfl _ _ 22 rfl (w5.heap.size + 3) 9 (.string ⟨#[]⟩) 1 16 Try.underlying22 hinf.out rfl _ _ _ rfl hown [.string ⟨xs.toArray⟩] W.heap.size rfl hsW.out rfl (txt_one [xs]) q1 q2 q3 ?_)
            clear hw1 hw2 q1 q2 q3
            intro v7 w7 ho7 hu7 hf7
            rw [show z + 3 + 4 + 3 = w5.heap.size + 3 by omega] at ho7
            have hvB : ∀ j, At pv j → w5.heap.size + 3 ≤ j := fun j hj => own_ge hown hj
            have hz7 := hu7.size
            have hout7 := hu7.heap hout6 fun h => by have := hvB _ h; omega
            have hlb7 := hu7.heap hlb6 fun h => by have := hvB _ h; omega
            have hnb7 := hu7.heap hnb6 fun h => by have := hvB _ h; omega
            have hoth : PgO (w5.heap.size + 3) w7 nv v7 (E.take (i + 1)) := by
              rw [ets]
              refine ⟨?_, ?_, ?_⟩
              · rw [namesOf_snoc]
                simp only [if_true, List.append_nil]
                exact hu7.owns hO6.n fun j hj h => hO6.a j hj h
              · rw [prefsOf_snoc]
                simp only [if_true, List.length_append, List.map_append, List.length_cons, List.length_nil, Nat.zero_add, hln]
                exact ho7
              · intro j h1 h2
                rcases hf7 j h2 with h | h
                · exact hO6.a j h1 h
                · have := own_lt hO6.n h1; have := hsW.out; omega
            obtain ⟨n7, hn7⟩ : ∃ n7, ln + 1 = n7 := ⟨_, rfl⟩
            rw [hn7] at ho7
            obtain ⟨_, a7, c7, rfl, -⟩ := has_of_owns ho7
            have k0 := (cells_of hout7).1 1
            have kf := (cells_of hout7).2 1
            have l0 := (cells_of hlb7).1 0
            have lf := (cells_of hlb7).2 0
            have hUf : Upd (fun j => j = z ∨ j = z + 1 ∨ j = z + 2) w5 ((w7.setCell ⟨z, 1, none⟩ (.slice a7 n7 c7)).setCell ⟨z + 1 + 1, 0, none⟩ (.string ⟨xs.toArray⟩)) :=
              (((hI.upd.trans hu6 fun j hj e => .inr (.inl e)).trans hu7 fun j hj h => by have := hvB _ h; omega).then_setCell (p := ⟨z, 1, none⟩) (fun _ => .inl rfl) _).then_setCell (p := ⟨z + 1 + 1, 0, none⟩) (fun _ => .inr (.inr rfl)) _
            have hKO : KeepsOthers W ((w7.setCell ⟨z, 1, none⟩ (.slice a7 n7 c7)).setCell ⟨z + 1 + 1, 0, none⟩ (.string ⟨xs.toArray⟩)) :=
              ((hKO6.trans (hu7.othersB (own_cellsB hown))).trans (KeepsOthers.setCell _ _ _)).trans (KeepsOthers.setCell _ _ _)
            have hsame : ∀ j, j < W.heap.size → j ≠ z → j ≠ z + 1 → j ≠ z + 2 → ¬ At pv j → ((w7.setCell ⟨z, 1, none⟩ (.slice a7 n7 c7)).setCell ⟨z + 1 + 1, 0, none⟩ (.string ⟨xs.toArray⟩)).heap[j]? = W.heap[j]? := fun j hj h0 h1 h2 h3 =>
              (Below.heap_setCell _ _ _ _ (by show j ≠ z + 1 + 1; omega)).trans ((Below.heap_setCell _ _ _ _ h0).trans ((hu7.block j (by omega) h3).trans (hu6.block j hj h1)))
            have hfin := set_blk (j := 0) (v := .string ⟨xs.toArray⟩) (show (w7.setCell ⟨z, 1, none⟩ (.slice a7 n7 c7)).heap[z + 1 + 1]? = _ from (Below.heap_setCell _ _ _ _ (by show z + 1 + 1 ≠ z; omega)).trans hlb7)
            have hfo := (Below.heap_setCell (w7.setCell ⟨z, 1, none⟩ (.slice a7 n7 c7)) ⟨z + 1 + 1, 0, none⟩ (.string ⟨xs.toArray⟩) z (by show z ≠ z + 1 + 1; omega)).trans (set_blk (j := 1) hout7 (.slice a7 n7 c7))
            have hfn := (Below.heap_setCell (w7.setCell ⟨z, 1, none⟩ (.slice a7 n7 c7)) ⟨z + 1 + 1, 0, none⟩ (.string ⟨xs.toArray⟩) (z + 1) (by show z + 1 ≠ z + 1 + 1; omega)).trans ((Below.heap_setCell w7 ⟨z, 1, none⟩ (.slice a7 n7 c7) (z + 1) (by show z + 1 ≠ z; omega)).trans hnb7)
            have hall : KeepsOthers W ((w7.setCell ⟨z, 1, none⟩ (.slice a7 n7 c7)).setCell ⟨z + 1 + 1, 0, none⟩ (.string ⟨xs.toArray⟩)) ∧ Stay (EntK (z + 3) (z + 3 + 1) (z + 3 + 2) (z + 3 + 3) (.slice va k vc)) W ((w7.setCell ⟨z, 1, none⟩ (.slice a7 n7 c7)).setCell ⟨z + 1 + 1, 0, none⟩ (.string ⟨xs.toArray⟩)) ∧
                ((w7.setCell ⟨z, 1, none⟩ (.slice a7 n7 c7)).setCell ⟨z + 1 + 1, 0, none⟩ (.string ⟨xs.toArray⟩)).heap[w5.heap.size + 2]? = W.heap[w5.heap.size + 2]? ∧ PgI E M z w5 (i + 1) ((w7.setCell ⟨z, 1, none⟩ (.slice a7 n7 c7)).setCell ⟨z + 1 + 1, 0, none⟩ (.string ⟨xs.toArray⟩)) := by
              refine ⟨hKO, fun j hj => hsame j ?_ ?_ ?_ ?_ ?_, hsame _ hW (by omega) (by omega) (by omega) (fun h => by have := hvB _ h; omega), hUf, by omega, ?_, ?_, _, _, hfo, ?_⟩
              · have := hlt5 j hj; omega
              · rcases hj with h | h | h | h | h <;> first | omega | (have := hlt.out j h; omega)
              · rcases hj with h | h | h | h | h <;> first | omega | (have := hlt.out j h; omega)
              · rcases hj with h | h | h | h | h <;> first | omega | (have := hlt.out j h; omega)
              · intro h; have h1 := hvB _ h; have := hlt5 j hj; omega
              · rw [hfn]; congr 3
              · rw [show z + 2 = z + 1 + 1 by omega, hfin, els]; rfl
              · exact hoth.same fun j hB hj => (Below.heap_setCell _ _ _ _ (by show j ≠ z + 1 + 1; omega)).trans (Below.heap_setCell _ _ _ _ (by show j ≠ z; omega))
            have r07 : w7.cell? ⟨B, 0, none⟩ = some (.string ⟨xs.toArray⟩) := hu7.cell r06 (own_not hown hrow6 (by decide))
            clear hoth hUf hKO hsame hfin hfo hfn hf7 hu7 hout7 hlb7 hnb7 ho7 hown
            gi_wp2
            exact hall
      case done =>
        rintro D W hD hI hKd
        obtain ⟨nv, pv, hout, hO⟩ := id hI.out
        have hupd := hI.upd
        have hle := hI.le
        obtain ⟨n1, hn1⟩ : ∃ n1, (namesOf (E.take E.length)).length = n1 := ⟨_, rfl⟩
        obtain ⟨n2, hn2⟩ : ∃ n2, (prefsOf (E.take E.length)).length = n2 := ⟨_, rfl⟩
        have hON := hO.n
        have hOP := hO.p
        rw [hn1] at hON
        rw [hn2] at hOP
        obtain ⟨_, a1, d1, rfl, -⟩ := has_of_owns hON
        obtain ⟨_, a2, d2, rfl, -⟩ := has_of_owns hOP
        have o0 := (cells_of hout).1 0
        have o1 := (cells_of hout).1 1
        have o2 := (cells_of hout).1 2
        have o3 := (cells_of hout).1 3
        have hbW := hupd.heap hbw5.out (by omega)
        have hUW := Lib.hid ((hUw.out.trans hu5w.out fun _ _ h => h).trans hupd fun j hj h => by omega)
        have hDz : D ≠ w.heap.size + 1 := by omega
        clear hit hlt5
        go_wp2_with (refine storeB_list rfl 26 _ _ rfl (w.heap.size + 1) #[.slice a1 n1 d1, .slice a2 n2 d2, .string ⟨#[]⟩, .bool false] _ _ rfl rfl hbW rfl hs4.out (by simp [Value.oneCell']) ?_)
        intro w8 hb8 hu8
        have hKd8 := hu8.heap hKd hDz
        have hb9 : (w8.putObj D (.deferred none)).heap[w.heap.size + 1]? = _ := (World.putObj_heap_other (fun e => hDz e.symm)).trans hb8
        have x0 := (cells_of hb9).1 0
        have x1 := (cells_of hb9).1 1
        have x2 := (cells_of hb9).1 2
        have x3 := (cells_of hb9).1 3
        have hU9 : Upd Non w (w8.putObj D (.deferred none)) := (hUW.out.trans hu8 fun j hj e => by omega).put (by omega) _
        have hN9 : Txts (w8.putObj D (.deferred none)) (.slice a1 n1 d1) (namesOf (E.take E.length)) := by
          rw [← hn1] at hON
          have := has_of_owns (owns_heap (w' := w8.putObj D (.deferred none)) hON fun j hj => (World.putObj_heap_other (fun e => by subst e; obtain ⟨cur, hc⟩ := own_type hON hj; rw [hKd] at hc; cases hc)).trans (hu8.block j (own_lt hON hj) (by have := own_ge hON hj; omega)))
          rw [hn1] at this
          unfold Txts; rw [hn1]; exact this
        have hP9 : Txts (w8.putObj D (.deferred none)) (.slice a2 n2 d2) (prefsOf (E.take E.length)) := by
          rw [← hn2] at hOP
          have := has_of_owns (owns_heap (w' := w8.putObj D (.deferred none)) hOP fun j hj => (World.putObj_heap_other (fun e => by subst e; obtain ⟨cur, hc⟩ := own_type hOP hj; rw [hKd] at hc; cases hc)).trans (hu8.block j (own_lt hOP hj) (by have := own_ge hOP hj; omega)))
          rw [hn2] at this
          unfold Txts; rw [hn2]; exact this
        have hz9 : w.heap.size ≤ w5.heap.size + 3 := by have := (hUw.out.trans hu5w.out fun _ _ h => h).size; omega
        have hNN : ∀ k, At (.slice a1 n1 d1) k → w.heap.size ≤ k ∧ k < (w8.putObj D (.deferred none)).heap.size := fun k hk => ⟨Nat.le_trans hz9 (own_ge hON hk), by have h1 := own_lt hON hk; have h2 := hu8.size; simp; omega⟩
        have hNP : ∀ k, At (.slice a2 n2 d2) k → w.heap.size ≤ k ∧ k < (w8.putObj D (.deferred none)).heap.size := fun k hk => ⟨Nat.le_trans hz9 (own_ge hOP hk), by have h1 := own_lt hOP hk; have h2 := hu8.size; simp; omega⟩
        replace hNN := Lib.hid hNN
        replace hNP := Lib.hid hNP
        clear hb9 hb8 hu8 hbW hON hOP hO hout o0 o1 o2 o3
        go_wp2_with fail
        refine ⟨by simp, .inl ⟨_, _, rfl, run_takeDeferred hKd8, ?_⟩⟩
        refine ⟨.tuple #[.agg #[.slice a1 n1 d1, .slice a2 n2 d2, .string ⟨#[]⟩, .bool false], .int .i64 0], by simp [results, Try.results9, go_sem, x0, x1, x2, x3]; try rfl, ?_⟩
        rw [hR'.out]
        exact ⟨_, rfl, ⟨_, _, by rw [hE, Int.toNat_natCast, page_all hle]; rfl, by rw [hE, Int.toNat_natCast, page_all hle]; exact hN9, by rw [hE, Int.toNat_natCast, page_all hle]; exact hP9⟩, hU9, pgNew_own hNN.out hNP.out⟩
      case stop =>
        rintro D c i W hi hD hX hKd
        obtain ⟨rfl, rfl, hupd, nv, pv, hout, hO⟩ := hX
        refine (wpIn_wide (n := 5)).2 ?_
        obtain ⟨y, hy⟩ : ∃ y, lastS E i = y := ⟨_, rfl⟩
        rw [hy] at hout
        obtain ⟨n1, hn1⟩ : ∃ n1, (namesOf (E.take i)).length = n1 := ⟨_, rfl⟩
        obtain ⟨n2, hn2⟩ : ∃ n2, (prefsOf (E.take i)).length = n2 := ⟨_, rfl⟩
        have hON := hO.n
        have hOP := hO.p
        rw [hn1] at hON
        rw [hn2] at hOP
        obtain ⟨_, a1, d1, rfl, -⟩ := has_of_owns hON
        obtain ⟨_, a2, d2, rfl, -⟩ := has_of_owns hOP
        have o0 := (cells_of hout).1 0
        have o1 := (cells_of hout).1 1
        have o2 := (cells_of hout).1 2
        have o3 := (cells_of hout).1 3
        have hbW := hupd.heap hbw5.out (by omega)
        have hUW := Lib.hid ((hUw.out.trans hu5w.out fun _ _ h => h).trans hupd fun j hj h => by omega)
        have hDz : D ≠ w.heap.size + 1 := by omega
        clear hit hlt5
        go_wp2_with (refine storeB_list rfl 26 _ _ rfl (w.heap.size + 1) #[.slice a1 n1 d1, .slice a2 n2 d2, .string ⟨y.toArray⟩, .bool true] _ _ rfl rfl hbW rfl hs4.out (by simp [Value.oneCell']) ?_)
        intro w8 hb8 hu8
        have hKd8 := hu8.heap hKd hDz
        have hb9 : (w8.putObj D (.deferred none)).heap[w.heap.size + 1]? = _ := (World.putObj_heap_other (fun e => hDz e.symm)).trans hb8
        have x0 := (cells_of hb9).1 0
        have x1 := (cells_of hb9).1 1
        have x2 := (cells_of hb9).1 2
        have x3 := (cells_of hb9).1 3
        have hU9 : Upd Non w (w8.putObj D (.deferred none)) := (hUW.out.trans hu8 fun j hj e => by omega).put (by omega) _
        have hN9 : Txts (w8.putObj D (.deferred none)) (.slice a1 n1 d1) (namesOf (E.take i)) := by
          rw [← hn1] at hON
          have := has_of_owns (owns_heap (w' := w8.putObj D (.deferred none)) hON fun j hj => (World.putObj_heap_other (fun e => by subst e; obtain ⟨cur, hc⟩ := own_type hON hj; rw [hKd] at hc; cases hc)).trans (hu8.block j (own_lt hON hj) (by have := own_ge hON hj; omega)))
          rw [hn1] at this
          unfold Txts; rw [hn1]; exact this
        have hP9 : Txts (w8.putObj D (.deferred none)) (.slice a2 n2 d2) (prefsOf (E.take i)) := by
          rw [← hn2] at hOP
          have := has_of_owns (owns_heap (w' := w8.putObj D (.deferred none)) hOP fun j hj => (World.putObj_heap_other (fun e => by subst e; obtain ⟨cur, hc⟩ := own_type hOP hj; rw [hKd] at hc; cases hc)).trans (hu8.block j (own_lt hOP hj) (by have := own_ge hOP hj; omega)))
          rw [hn2] at this
          unfold Txts; rw [hn2]; exact this
        have hz9 : w.heap.size ≤ w5.heap.size + 3 := by have := (hUw.out.trans hu5w.out fun _ _ h => h).size; omega
        have hNN : ∀ k, At (.slice a1 n1 d1) k → w.heap.size ≤ k ∧ k < (w8.putObj D (.deferred none)).heap.size := fun k hk => ⟨Nat.le_trans hz9 (own_ge hON hk), by have h1 := own_lt hON hk; have h2 := hu8.size; simp; omega⟩
        have hNP : ∀ k, At (.slice a2 n2 d2) k → w.heap.size ≤ k ∧ k < (w8.putObj D (.deferred none)).heap.size := fun k hk => ⟨Nat.le_trans hz9 (own_ge hOP hk), by have h1 := own_lt hOP hk; have h2 := hu8.size; simp; omega⟩
        replace hNN := Lib.hid hNN
        replace hNP := Lib.hid hNP
        clear hb9 hb8 hu8 hbW hON hOP hO hout o0 o1 o2 o3
        go_wp2_with fail
        refine ⟨by simp, .inl ⟨_, _, rfl, run_takeDeferred hKd8, ?_⟩⟩
        refine ⟨.tuple #[.agg #[.slice a1 n1 d1, .slice a2 n2 d2, .string ⟨y.toArray⟩, .bool true], .int .i64 0], by simp [results, Try.results9, go_sem, x0, x1, x2, x3]; try rfl, ?_⟩
        rw [hR'.out]
        exact ⟨_, rfl, ⟨_, _, by rw [hE, Int.toNat_natCast, page_more hi hM1, hy]; rfl, by rw [hE, Int.toNat_natCast, page_more hi hM1, hy]; exact hN9, by rw [hE, Int.toNat_natCast, page_more hi hM1, hy]; exact hP9⟩, hU9, pgNew_own hNN.out hNP.out⟩
theorem lPage (nv : Value) (l : List Str) (p d a : Str) (m : Int) (w : World) (hT : Txts w nv l) (hlt : ∀ k, At nv k → k < w.heap.size) (hn : l.length ≤ 500) (hs : ∀ s ∈ l, s.length ≤ 140737488355328) (hm : -9223372036854775808 ≤ m) :
    Calls Try.prog 9 #[nv, txtV p, txtV d, txtV a, .int .i64 m] w (PageRetN w (page p d a m l) (pageE p d a m l)) := by
  by_cases hc : ckOk p d a m
  · exact lPageOk nv l p d a m w hT hlt hn hs hc
  · have h := lPageArg nv l p d a m w hT hm hc
    have e1 : page p d a m l = Pg.none := by unfold page; rw [if_neg (fun h => hc h.1)]
    have e2 : pageE p d a m l = 2 := by unfold pageE; rw [if_neg hc]
    rw [e1, e2]; exact h
end Go.Proofs.Ytphdclafeijpnaa
