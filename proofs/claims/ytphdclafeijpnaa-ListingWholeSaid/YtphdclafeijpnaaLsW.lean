/- The walk over ListingWhole where the asking is no bad one. -/
import Derived.Test.YtphdclafeijpnaaLsV
namespace Go.Proofs.Ytphdclafeijpnaa
open Go.RowKit Go.Amb Go.Shelf
set_option linter.unusedVariables false
set_option linter.unusedSimpArgs false
set_option maxRecDepth 100000
set_option maxHeartbeats 8000000 in
theorem lWholeGood (nv : Value) (l : List Str) (p d : Str) (m : Int) (w : World) (hT : Txts w nv l) (hn : l.length ≤ 50) (hs : ∀ s ∈ l, s.length ≤ 140737488355328) (hp32 : p.length ≤ 32) (hd1 : d.length ≤ 1) : Calls Try.prog 4 #[nv, txtV p, txtV d, .int .i64 m] w (Ret (.bool true) w) := by
  have cS := Lib.hid (lSorted nv l w hT (by omega))
  obtain ⟨va, vc, rfl, -⟩ := txts_at hT
  obtain ⟨n, hnn⟩ : ∃ n, l.length = n := ⟨_, rfl⟩
  rw [hnn] at hn cS ⊢
  have h1 : ((50 : Int) < (n : Int)) = False := eq_false (by omega)
  have cP := Lib.hid (fun w' v (o : List Str) (a : Str) (m : Int) (hT : Txts w' v o) (hl : ∀ k, At v k → k < w'.heap.size) (hn : o.length ≤ 500) (hs : ∀ s ∈ o, s.length ≤ 140737488355328) (hm : -9223372036854775808 ≤ m) (pg : Pg) (hp : page p d a m o = pg) (he : pageE p d a m o = 0) => lPageY v o p d a m w' hT hl hn hs hm pg 0 hp he)
  replace hs := Lib.hid hs
  clear hT
  unfold txtV at *
  go_enter Try.func4, Try.ntmps4
  go_wp2_with fail
  refine cS.out.mono ?_
  rintro e w1 ⟨v, o, rfl, hTo, hvo, hAo, hmo, hlo, hu1⟩
  have hv1 : ∀ k, At v k → k < w1.heap.size := fun k hk => (hvo k hk).2
  have hso : ∀ s ∈ o, s.length ≤ 140737488355328 := fun s h => hs.out s (hmo s h)
  obtain ⟨E, hE⟩ : ∃ E, ents p d [] o = E := ⟨_, rfl⟩
  have ho50 : o.length ≤ 50 := by omega
  have hE50 : E.length ≤ 50 := by rw [← hE]; exact Nat.le_trans (entsFrom_le _ _ _ _ _) ho50
  obtain ⟨q1, q2⟩ := page_whole hAo hE hE50 hp32 hd1
  have cQ := Lib.hid (cP.out w1 v o [] 50 hTo hv1 (by omega) hso (by omega) _ q2 q1)
  obtain ⟨oa, oc, rfl, -⟩ := txts_at hTo
  obtain ⟨on, hon⟩ : ∃ on, o.length = on := ⟨_, rfl⟩
  have hTo' : Txts w1 (.slice oa on oc) o := by rw [← hon]; exact hTo
  rw [hon] at hv1 cQ hvo ⊢
  replace hTo' := Lib.hid hTo'
  replace hso := Lib.hid hso
  replace hAo := Lib.hid hAo
  replace hE := Lib.hid hE
  replace hv1 := Lib.hid hv1
  replace hu1 := Lib.hid hu1
  obtain ⟨nA, hnA⟩ : ∃ x, (namesOf E).length = x := ⟨_, rfl⟩
  obtain ⟨pA, hpA⟩ : ∃ x, (prefsOf E).length = x := ⟨_, rfl⟩
  clear hTo hvo hmo q1 q2 cS hs
  simp only []
  go_wp2_with fail
  refine cQ.out.mono ?_
  rintro e w2 ⟨a1, c1, a2, c2, rfl, hn2, hp2, hnw, hu2⟩
  simp only at hn2 hp2 hnw ⊢
  rw [hnA] at hn2 hnw ⊢
  rw [hpA] at hp2 hnw ⊢
  have hb := heap_alloc_new w2 (.cells #[.slice a1 nA c1, .slice a2 pA c2, .string ⟨#[]⟩, .bool false] 26)
  have hA := Upd.alloc Non w2 (.cells #[.slice a1 nA c1, .slice a2 pA c2, .string ⟨#[]⟩, .bool false] 26)
  have hPA : Hid (PgAt (w2.alloc (.cells #[.slice a1 nA c1, .slice a2 pA c2, .string ⟨#[]⟩, .bool false] 26)) (.agg #[.slice a1 nA c1, .slice a2 pA c2, .string ⟨#[]⟩, .bool false]) ⟨namesOf E, prefsOf E, [], false⟩) := Lib.hid ⟨_, _, rfl, hn2.non hA, hp2.non hA⟩
  have hAn : Hid (∀ k, At (.slice a1 nA c1) k ∨ At (.slice a2 pA c2) k → k < w2.heap.size) := Lib.hid (fun k hk => (hnw k hk).2)
  have hU := Lib.hid ((hu2.trans hA fun _ _ h => h))
  obtain ⟨zA, hzA⟩ : ∃ zA, w2.heap.size = zA := ⟨_, rfl⟩
  rw [hzA] at hb hAn
  replace hb := Lib.hid hb
  clear hn2 hp2 hnw hu2 cQ hA
  by_cases hm1 : m < 1
  · go_wp2_with fail
    refine (lives20 _).mono ?_
    rintro e w8 ⟨rfl, u8⟩
    have hU8 := (hu1.out.trans hU.out fun _ _ h => h).trans u8 fun _ _ h => h
    simp only []
    go_wp2_with fail
    go_ret
    exact ⟨rfl, hU8⟩
  have hm1' : (m < 1) = False := eq_false hm1
  by_cases hm50 : 50 < m
  · clear hm1
    go_wp2_with fail
    refine (lives20 _).mono ?_
    rintro e w8 ⟨rfl, u8⟩
    have hU8 := (hu1.out.trans hU.out fun _ _ h => h).trans u8 fun _ _ h => h
    simp only []
    go_wp2_with fail
    go_ret
    exact ⟨rfl, hU8⟩
  have hm50' : (50 < m) = False := eq_false hm50
  obtain ⟨M, hM⟩ : ∃ M : Nat, m = (M : Int) := ⟨m.toNat, by omega⟩
  subst hM
  have hM1 : 1 ≤ M := by omega
  have hM50n : M ≤ 50 := by omega
  clear hm1 hm50
  go_wp2_with fail
  obtain ⟨w3, hw3⟩ : ∃ w3, w2.alloc (.cells #[.slice a1 nA c1, .slice a2 pA c2, .string ⟨#[]⟩, .bool false] 26) = w3 := ⟨_, rfl⟩
  have hz3 : zA < w3.heap.size := by rw [← hw3]; simp; omega
  rw [hw3] at hb hPA hU ⊢
  clear hw3
  go_loopw [12] (fun iv wr => ∃ i : Nat, iv = .int .i64 (i : Int) ∧ i ≤ on ∧ Hid (∀ j (h : j < o.length), j < i → o[j].length ≤ 32) ∧ wr = w3) (fun iv _ => on - (intOf iv).toNat)
  case atStart => exact ⟨0, rfl, by omega, Lib.hid (fun j h h' => by omega), rfl⟩
  case round =>
    obtain ⟨i, rfl, hi, h32, rfl⟩ := hrel
    by_cases hin : i < on
    · have hin' : (i : Int) < (on : Int) := by omega
      have hi0 : (0 : Int) ≤ (i : Int) := by omega
      obtain ⟨_, _, e, hat⟩ := txts_at (hTo'.out.non hU.out)
      injection e with e1 e2 e3
      subst e1
      clear e2 e3
      obtain ⟨g, off, rfl, hx⟩ := hat i (by omega)
      obtain ⟨x, hxe⟩ : ∃ x, o[i]'(by omega) = x := ⟨_, rfl⟩
      rw [hxe] at hx
      unfold txtV at hx
      clear hat
      by_cases hx32 : 32 < x.length
      · have hx32' : (32 : Int) < (x.length : Int) := by omega
        replace hxe := Lib.hid hxe
        go_wp2_with fail
        refine (lives20 _).mono ?_
        rintro e w8 ⟨rfl, u8⟩
        have hU8 := (hu1.out.trans hU.out fun _ _ h => h).trans u8 fun _ _ h => h
        simp only []
        go_wp2_with fail
        go_ret
        exact ⟨rfl, hU8⟩
      · have hx32' : ((32 : Int) < (x.length : Int)) = False := eq_false (by omega)
        have hx32n : (32 < x.length) = False := eq_false hx32
        have hnx := Lib.hid (show ∀ j (h : j < o.length), j < i + 1 → o[j].length ≤ 32 from fun j h h' => by
          rcases Nat.lt_succ_iff_lt_or_eq.1 h' with h' | rfl
          · exact h32.out j h h'
          · rw [hxe]; omega)
        replace hxe := Lib.hid hxe
        clear hx32
        go_wp2_with fail
        go_roundw
        case rel => exact ⟨i + 1, by go_num, by omega, Lib.hid hnx.out, trivial⟩
        case measure => simp [intOf]; omega
    · obtain rfl : i = on := by omega
      have hin' : ((i : Int) < (i : Int)) = False := eq_false (by omega)
      have h32' : Hid (∀ s ∈ o, s.length ≤ 32) := Lib.hid (fun s hs => by obtain ⟨j, hj, rfl⟩ := List.mem_iff_getElem.1 hs; exact h32.out j hj (by omega))
      clear hin h32
      have hz4 := heap_alloc_new wr (.cells #[.slice none 0 0, .slice none 0 0, .string ⟨#[]⟩, .bool false] 26)
      have hA4 := Upd.alloc Non wr (.cells #[.slice none 0 0, .slice none 0 0, .string ⟨#[]⟩, .bool false] 26)
      have hb4 := hA4.heap hb.out fun h => h
      obtain ⟨z, hz⟩ : ∃ z, wr.heap.size = z := ⟨_, rfl⟩
      rw [hz] at hz4
      have hToz : Hid (∀ j, At (.slice oa i oc) j → ¬ j = z) := Lib.hid (fun j hj e => by have h1 := hv1.out j hj; have h2 := hU.out.size; omega)
      have hinf := Lib.hid (show (Try.prog.info? 9).map (fun i => (i.zero, i.size, i.bytes)) = some (some (.string ⟨#[]⟩), 1, 16) from rfl)
      have hUz := Lib.hid (hU.out.trans hA4 fun _ _ h => h)
      obtain ⟨en, hen⟩ : ∃ en, E.length = en := ⟨_, rfl⟩
      replace hz4 := Lib.hid hz4
      go_wp2_with fail
      obtain ⟨w4, hw4⟩ : ∃ w4, wr.alloc (.cells #[.slice none 0 0, .slice none 0 0, .string ⟨#[]⟩, .bool false] 26) = w4 := ⟨_, rfl⟩
      have hA4' := hA4
      rw [hw4] at hz4 hUz hb4 hA4' ⊢
      obtain ⟨B0, hB0⟩ : ∃ B0, w4.heap.size = B0 := ⟨_, rfl⟩
      have hzB : z < B0 := by rw [← hB0]; exact heap_lt hz4.out
      replace hb4 := Lib.hid hb4
      have hzAz : zA ≠ z := by omega
      have hzw : Hid (w1.heap.size ≤ z) := Lib.hid (by have := hU.out.size; omega)
      have hPA4 : Hid (∀ w', Upd (fun j => j = z) w4 w' → PgAt w' (.agg #[.slice a1 nA c1, .slice a2 pA c2, .string ⟨#[]⟩, .bool false]) ⟨namesOf E, prefsOf E, [], false⟩) := Lib.hid (fun w' hu => by
        obtain ⟨n', p', e, h1, h2⟩ := hPA.out.non hA4'
        injection e with e
        simp at e
        obtain ⟨rfl, rfl, -⟩ := e
        exact ⟨_, _, rfl, h1.upd hu (fun j hj e => by have := hAn.out j (.inl hj); omega), h2.upd hu (fun j hj e => by have := hAn.out j (.inr hj); omega)⟩)
      clear hw4 hA4 hA4' hU hb hPA
      obtain ⟨on, rfl⟩ : ∃ on, on = i := ⟨_, rfl⟩
      try rw [hz]
      go_loopw [14, 15] (fun av iv wx => ∃ (i k : Nat), av = .string ⟨(lastS E k).toArray⟩ ∧ iv = .int .i64 (i : Int) ∧ i ≤ k ∧ k ≤ en ∧ Upd (fun j => j = z) w4 wx ∧ ∃ nv pv, wx.heap[z]? = some (.cells #[nv, pv, .string ⟨#[]⟩, .bool false] 26 (0, 0)) ∧ PgO B0 wx nv pv (E.take k)) (fun _ iv _ => 60 - (intOf iv).toNat)
      case atStart => exact ⟨0, 0, rfl, rfl, by omega, by omega, Upd.refl _ _, _, _, hz4.out, World.ownsRow_nil _ _ _ _, World.ownsRow_nil _ _ _ _, fun k hk => by simp [At, Value.ownBlock] at hk⟩
      case round =>
        obtain ⟨i, k, rfl, rfl, hik, hken, hUx4, nv, pv, hout, hO⟩ := hrel
        obtain ⟨wx, hwx⟩ : ∃ wx, wx = wr := ⟨_, rfl⟩
        subst hwx
        have hUx : Upd (fun j => j = z) w1 wx := (hUz.out.mono fun _ _ h => h.elim).trans hUx4 (fun j hj e => e)
        by_cases hmore : k + M < en
        · have hpg := page_from hAo.out hE.out h32'.out hp32 hd1 M k hM1 hM50n (by omega)
          rw [hen, if_pos hmore, decide_eq_true hmore] at hpg
          obtain ⟨x9, hx9⟩ : ∃ x, lastS E (k + M) = x := ⟨_, rfl⟩
          rw [hx9] at hpg
          have cR := Lib.hid (cP.out wx (.slice oa on oc) o (lastS E k) (M : Int) (hTo'.out.upd hUx hToz.out) (fun j hj => by have h1 := hv1.out j hj; have h2 := hUx.size; omega) (by omega) hso.out (by omega) ⟨namesOf ((E.drop k).take M), prefsOf ((E.drop k).take M), x9, true⟩ hpg.2 hpg.1)
          clear hpg
          go_wp2_with fail
          refine cR.out.mono ?_
          rintro e w5 ⟨a5, c5, a6, c6, rfl, hn5, hp5, hnw, hu5⟩
          simp only at hn5 hp5 hnw ⊢
          obtain ⟨n5, hn5e⟩ : ∃ x, (namesOf ((E.drop k).take M)).length = x := ⟨_, rfl⟩
          obtain ⟨n6, hn6e⟩ : ∃ x, (prefsOf ((E.drop k).take M)).length = x := ⟨_, rfl⟩
          have hsum := both_len ((E.drop k).take M)
          rw [List.length_take, List.length_drop, hen] at hsum
          rw [hn5e] at hn5 hnw hsum ⊢
          rw [hn6e] at hp5 hnw hsum ⊢
          have hA6 := Upd.alloc Non w5 (.cells #[.slice a5 n5 c5, .slice a6 n6 c6, .string ⟨x9.toArray⟩, .bool true] 26)
          have hu6 : Upd Non wx (w5.alloc (.cells #[.slice a5 n5 c5, .slice a6 n6 c6, .string ⟨x9.toArray⟩, .bool true] 26)) := hu5.trans hA6 fun _ _ h => h
          have hzp := heap_alloc_new w5 (.cells #[.slice a5 n5 c5, .slice a6 n6 c6, .string ⟨x9.toArray⟩, .bool true] 26)
          have hout6 := hu6.heap hout fun h => h
          have hO6 := hO.same fun j _ hj => hu6.block j hj fun h => h
          have hn6 := hn5.non hA6
          have hp6 := hp5.non hA6
          have hz5 := hu5.size
          have y0 := (cells_of hzp).1 0
          have y1 := (cells_of hzp).1 1
          have y2 := (cells_of hzp).1 2
          have y3 := (cells_of hzp).1 3
          have g0 := (cells_of hout6).1 0
          have g1 := (cells_of hout6).1 1
          have gf := (cells_of hout6).2 0
          obtain ⟨ln, hln⟩ : ∃ x, (namesOf (E.take k)).length = x := ⟨_, rfl⟩
          obtain ⟨lp, hlp⟩ : ∃ x, (prefsOf (E.take k)).length = x := ⟨_, rfl⟩
          have hown := hO6.n
          rw [hln] at hown
          have hownp := hO6.p
          rw [hlp] at hownp
          have hl50 : ln + n5 ≤ 50 ∧ lp + n6 ≤ 50 := by
            have h1 := namesOf_le (E.take k)
            have h2 := prefsOf_le (E.take k)
            rw [List.length_take] at h1 h2
            omega
          have hsrcN := Src.ofHas (P := Try.prog) (tx := 22) Try.underlying22 hn6 (txt_one _)
          rw [hn5e] at hsrcN
          have r1 : ln + n5 ≤ maxLen := by unfold maxLen; omega
          have r2 : (ln + n5) * 16 ≤ 140737488355328 := by omega
          have r3 : B0 ≤ (w5.alloc (.cells #[.slice a5 n5 c5, .slice a6 n6 c6, .string ⟨x9.toArray⟩, .bool true] 26)).heap.size := by have := hUx4.size; have := hu6.size; omega
          have hsum2 : (n5 : Int) + (n6 : Int) = ((M : Nat) : Int) := by omega
          have hw9 := IntWalk.i64_in ((M : Nat) : Int) ⟨by omega, by omega⟩
          have e60 : ((60 : Int) < (i : Int)) = False := eq_false (by omega)
          have eM : ((M : Int) < ((M : Nat) : Int)) = False := eq_false (by omega)
          have eMn : (M < (M : Nat)) = False := eq_false (by omega)
          have hlt9 : Op.bytesLess (lastS E k) x9 = true := by rw [← hx9]; exact lastS_lt hd1 hAo.out hE.out k M hM1 (by omega)
          obtain ⟨af, haf⟩ : ∃ af, lastS E k = af := ⟨_, rfl⟩
          rw [haf] at hlt9 ⊢
          have t1 : Op.bytesLess x9 af = false := bl_asymm af x9 hlt9
          have t2 : (x9 = af) = False := eq_false (fun e => less_ne hlt9 e.symm)
          have t3 : (x9 == af) = false := by simp [t2]
          have t4 : ((M : Int) == (M : Int)) = true := by simp
          have hxlt : ∀ j, At (.slice a6 n6 c6) j → wx.heap.size ≤ j := fun j hj => (hnw j (.inr hj)).1
          replace hxlt := Lib.hid hxlt
          have hlnw : ∀ j, At nv j → B0 ≤ j ∧ j < wx.heap.size := fun j hj => ⟨own_ge hO.n hj, own_lt hO.n hj⟩
          have hlpw : ∀ j, At pv j → B0 ≤ j ∧ j < wx.heap.size := fun j hj => ⟨own_ge hO.p hj, own_lt hO.p hj⟩
          replace hlnw := Lib.hid hlnw
          replace hlpw := Lib.hid hlpw
          have hap := Lib.hid hO6.a
          replace hp6 := Lib.hid hp6
          replace hzp := Lib.hid hzp
          replace hu6 := Lib.hid hu6
          replace hown := Lib.hid hown
          replace hownp := Lib.hid hownp
          replace hsrcN := Lib.hid hsrcN
          clear hn5 hp5 hnw hu5 hA6 hO6 hn6 hout hO cR
          go_wp2_with (at_builtin; go_must (refine wpList_app rfl _ _ 22 22 rfl B0 9 (.string ⟨#[]⟩) 1 16 Try.underlying22 hinf.out rfl _ _ _ rfl hown.out _ n5 ((namesOf ((E.drop k).take M)).map txtV) rfl hsrcN.out r1 r2 r3 ?_))
          intro v7 w7 ho7 hu7 hf7
          have hz6s : wx.heap.size ≤ (w5.alloc (.cells #[.slice a5 n5 c5, .slice a6 n6 c6, .string ⟨x9.toArray⟩, .bool true] 26)).heap.size := hu6.out.size
          have hz7 := hu7.size
          have hzn : ¬ At nv z := fun h => by have := (hlnw.out z h).1; omega
          have hzpn : ¬ At nv w5.heap.size := fun h => by have := (hlnw.out _ h).2; omega
          have hout7 := hu7.heap hout6 hzn
          have hzp7 := hu7.heap hzp.out hzpn
          obtain ⟨n7, hn7⟩ : ∃ n7, ln + n5 = n7 := ⟨_, rfl⟩
          rw [hn7] at ho7
          obtain ⟨_, a7, c7, rfl, -⟩ := id (has_of_owns ho7)
          have k0 := (cells_of hout7).1 0
          have kf := (cells_of hout7).2 0
          have hu8 : Upd (fun j => j = z) w7 (w7.setCell ⟨z, 0, none⟩ (.slice a7 n7 c7)) := Upd.setCell (S := fun j => j = z) w7 (a := ⟨z, 0, none⟩) rfl _
          have hout8 := set_blk (j := 0) hout7 (.slice a7 n7 c7)
          have hzzp : w5.heap.size ≠ z := by have := hUx4.size; omega
          have hzp8 := hu8.heap hzp7 hzzp
          have hp8own := hu8.owns (hu7.owns hownp.out (fun j h1 h2 => hap.out j h2 h1)) (fun j h1 h2 => by have := (hlpw.out j h1).1; omega)
          have hp68 := (hp6.out.upd hu7 (fun j h1 h2 => by have := hxlt.out j h1; have := (hlnw.out j h2).2; omega)).upd hu8 (fun j h1 h2 => by have := hxlt.out j h1; have := hUx4.size; omega)
          have hsrcP := Src.ofHas (P := Try.prog) (tx := 22) Try.underlying22 hp68 (txt_one _)
          rw [hn6e] at hsrcP
          have l1 := (cells_of hout8).1 1
          have lf := (cells_of hout8).2 1
          have m1 := (cells_of hzp8).1 1
          have r1' : lp + n6 ≤ maxLen := by unfold maxLen; omega
          have r2' : (lp + n6) * 16 ≤ 140737488355328 := by omega
          have hz8 := hu8.size
          have r3' : B0 ≤ (w7.setCell ⟨z, 0, none⟩ (.slice a7 n7 c7)).heap.size := by have := hUx4.size; omega
          have hv7 : ∀ j, At (.slice a7 n7 c7) j → B0 ≤ j ∧ ¬ At pv j := fun j hj => ⟨own_ge ho7 hj, fun hp => by
            rcases hf7 j hj with h | h
            · exact hap.out j h hp
            · have := (hlpw.out j hp).2; omega⟩
          replace hsrcP := Lib.hid hsrcP
          replace hp8own := Lib.hid hp8own
          replace hu8 := Lib.hid hu8
          replace hout8 := Lib.hid hout8
          replace hzp8 := Lib.hid hzp8
          replace ho7 := Lib.hid ho7
          replace hv7 := Lib.hid hv7
          replace hu7 := Lib.hid hu7
          clear hp68 hf7 hzp7 hout7 hout6 r1 r2 r3 hown hownp hsrcN g0 g1 gf y0 y1 y2 y3
          go_wp2_with (at_builtin; go_must (refine wpList_app rfl _ _ 22 22 rfl B0 9 (.string ⟨#[]⟩) 1 16 Try.underlying22 hinf.out rfl _ _ _ rfl hp8own.out _ n6 ((prefsOf ((E.drop k).take M)).map txtV) rfl hsrcP.out r1' r2' r3' ?_))
          intro v9 w9 ho9 hu9 hf9
          have hz9 := hu9.size
          have hzq : ¬ At pv z := fun h => by have := (hlpw.out z h).1; omega
          have hzpq : ¬ At pv w5.heap.size := fun h => by have := (hlpw.out _ h).2; omega
          have hout9 := hu9.heap hout8.out hzq
          have hzp9 := hu9.heap hzp8.out hzpq
          obtain ⟨n9, hn9⟩ : ∃ n9, lp + n6 = n9 := ⟨_, rfl⟩
          rw [hn9] at ho9
          obtain ⟨_, a9, c9, rfl, -⟩ := id (has_of_owns ho9)
          have hu10 : Upd (fun j => j = z) w9 (w9.setCell ⟨z, 1, none⟩ (.slice a9 n9 c9)) := Upd.setCell (S := fun j => j = z) w9 (a := ⟨z, 1, none⟩) rfl _
          have hout10 := set_blk (j := 1) hout9 (.slice a9 n9 c9)
          have hzp10 := hu10.heap hzp9 hzzp
          have j1 := (cells_of hout9).1 1
          have jf := (cells_of hout9).2 1
          have hUf : Upd (fun j => j = z) w4 (w9.setCell ⟨z, 1, none⟩ (.slice a9 n9 c9)) := by
            have hB := hUx4.size
            refine (((((hUx4.trans hu6.out fun _ _ h => h.elim).trans hu7.out fun j hj h => ?_).trans hu8.out fun _ _ h => h).trans hu9 fun j hj h => ?_).trans hu10 fun _ _ h => h)
            · have := (hlnw.out j h).1; omega
            · have := (hlpw.out j h).1; omega
          have hO10 : PgO B0 (w9.setCell ⟨z, 1, none⟩ (.slice a9 n9 c9)) (.slice a7 n7 c7) (.slice a9 n9 c9) (E.take (k + M)) := by
            rw [← take_from]
            refine ⟨?_, ?_, fun j h1 h2 => ?_⟩
            · rw [namesOf_app, List.length_append, List.map_append, hln, hn5e, hn7]
              exact hu10.owns (hu9.owns (hu8.out.owns ho7.out fun j h1 h2 => by have := (hv7.out j h1).1; omega) fun j h1 h2 => (hv7.out j h1).2 h2) fun j h1 h2 => by have := (hv7.out j h1).1; omega
            · rw [prefsOf_app, List.length_append, List.map_append, hlp, hn6e, hn9]
              exact hu10.owns ho9 fun j h1 h2 => by have := own_ge ho9 h1; omega
            · rcases hf9 j h2 with h | h
              · exact (hv7.out j h1).2 h
              · have := own_lt ho7.out h1; omega
          have w2' := (cells_of hzp10).1 2
          have w3' := (cells_of hzp10).1 3
          clear hp8own hsrcP hu8 hout8 hzp8 hu9 hf9 ho9 hout9 hzp9 hu10 hzp10 ho7 hv7 hu7 l1 lf m1 r1' r2' r3' k0 kf hap hlnw hlpw hu6 hzp hp6 hxlt
          go_wp2_with fail
          go_roundw
          case rel => exact ⟨i + 1, k + M, by rw [hx9], by go_num, by omega, by omega, hUf, _, _, hout10, hO10⟩
          case measure => simp [intOf]; omega
        · have hpg := page_from hAo.out hE.out h32'.out hp32 hd1 M k hM1 hM50n (by omega)
          rw [hen, if_neg hmore, decide_eq_false hmore] at hpg
          have cR := Lib.hid (cP.out wx (.slice oa on oc) o (lastS E k) (M : Int) (hTo'.out.upd hUx hToz.out) (fun j hj => by have h1 := hv1.out j hj; have h2 := hUx.size; omega) (by omega) hso.out (by omega) ⟨namesOf ((E.drop k).take M), prefsOf ((E.drop k).take M), ([] : Str), false⟩ hpg.2 hpg.1)
          clear hpg
          go_wp2_with fail
          refine cR.out.mono ?_
          rintro e w5 ⟨a5, c5, a6, c6, rfl, hn5, hp5, hnw, hu5⟩
          simp only at hn5 hp5 hnw ⊢
          obtain ⟨n5, hn5e⟩ : ∃ x, (namesOf ((E.drop k).take M)).length = x := ⟨_, rfl⟩
          obtain ⟨n6, hn6e⟩ : ∃ x, (prefsOf ((E.drop k).take M)).length = x := ⟨_, rfl⟩
          have hsum := both_len ((E.drop k).take M)
          rw [List.length_take, List.length_drop, hen] at hsum
          rw [hn5e] at hn5 hnw hsum ⊢
          rw [hn6e] at hp5 hnw hsum ⊢
          have hA6 := Upd.alloc Non w5 (.cells #[.slice a5 n5 c5, .slice a6 n6 c6, .string ⟨#[]⟩, .bool false] 26)
          have hu6 : Upd Non wx (w5.alloc (.cells #[.slice a5 n5 c5, .slice a6 n6 c6, .string ⟨#[]⟩, .bool false] 26)) := hu5.trans hA6 fun _ _ h => h
          have hzp := heap_alloc_new w5 (.cells #[.slice a5 n5 c5, .slice a6 n6 c6, .string ⟨#[]⟩, .bool false] 26)
          have hout6 := hu6.heap hout fun h => h
          have hO6 := hO.same fun j _ hj => hu6.block j hj fun h => h
          have hn6 := hn5.non hA6
          have hp6 := hp5.non hA6
          have hz5 := hu5.size
          have y0 := (cells_of hzp).1 0
          have y1 := (cells_of hzp).1 1
          have y2 := (cells_of hzp).1 2
          have y3 := (cells_of hzp).1 3
          have g0 := (cells_of hout6).1 0
          have g1 := (cells_of hout6).1 1
          have gf := (cells_of hout6).2 0
          obtain ⟨ln, hln⟩ : ∃ x, (namesOf (E.take k)).length = x := ⟨_, rfl⟩
          obtain ⟨lp, hlp⟩ : ∃ x, (prefsOf (E.take k)).length = x := ⟨_, rfl⟩
          have hown := hO6.n
          rw [hln] at hown
          have hownp := hO6.p
          rw [hlp] at hownp
          have hl50 : ln + n5 ≤ 50 ∧ lp + n6 ≤ 50 := by
            have h1 := namesOf_le (E.take k)
            have h2 := prefsOf_le (E.take k)
            rw [List.length_take] at h1 h2
            omega
          have hsrcN := Src.ofHas (P := Try.prog) (tx := 22) Try.underlying22 hn6 (txt_one _)
          rw [hn5e] at hsrcN
          have r1 : ln + n5 ≤ maxLen := by unfold maxLen; omega
          have r2 : (ln + n5) * 16 ≤ 140737488355328 := by omega
          have r3 : B0 ≤ (w5.alloc (.cells #[.slice a5 n5 c5, .slice a6 n6 c6, .string ⟨#[]⟩, .bool false] 26)).heap.size := by have := hUx4.size; have := hu6.size; omega
          have hsum2 : (n5 : Int) + (n6 : Int) = ((en - k : Nat) : Int) := by omega
          have hw9 := IntWalk.i64_in ((en - k : Nat) : Int) ⟨by omega, by omega⟩
          have e60 : ((60 : Int) < (i : Int)) = False := eq_false (by omega)
          have eM : ((M : Int) < ((en - k : Nat) : Int)) = False := eq_false (by omega)
          have eMn : (M < (en - k : Nat)) = False := eq_false (by omega)
          have hxlt : ∀ j, At (.slice a6 n6 c6) j → wx.heap.size ≤ j := fun j hj => (hnw j (.inr hj)).1
          replace hxlt := Lib.hid hxlt
          have hlnw : ∀ j, At nv j → B0 ≤ j ∧ j < wx.heap.size := fun j hj => ⟨own_ge hO.n hj, own_lt hO.n hj⟩
          have hlpw : ∀ j, At pv j → B0 ≤ j ∧ j < wx.heap.size := fun j hj => ⟨own_ge hO.p hj, own_lt hO.p hj⟩
          replace hlnw := Lib.hid hlnw
          replace hlpw := Lib.hid hlpw
          have hap := Lib.hid hO6.a
          replace hp6 := Lib.hid hp6
          replace hzp := Lib.hid hzp
          replace hu6 := Lib.hid hu6
          replace hown := Lib.hid hown
          replace hownp := Lib.hid hownp
          replace hsrcN := Lib.hid hsrcN
          clear hn5 hp5 hnw hu5 hA6 hO6 hn6 hout hO cR
          go_wp2_with (at_builtin; go_must (refine wpList_app rfl _ _ 22 22 rfl B0 9 (.string ⟨#[]⟩) 1 16 Try.underlying22 hinf.out rfl _ _ _ rfl hown.out _ n5 ((namesOf ((E.drop k).take M)).map txtV) rfl hsrcN.out r1 r2 r3 ?_))
          intro v7 w7 ho7 hu7 hf7
          have hz6s : wx.heap.size ≤ (w5.alloc (.cells #[.slice a5 n5 c5, .slice a6 n6 c6, .string ⟨#[]⟩, .bool false] 26)).heap.size := hu6.out.size
          have hz7 := hu7.size
          have hzn : ¬ At nv z := fun h => by have := (hlnw.out z h).1; omega
          have hzpn : ¬ At nv w5.heap.size := fun h => by have := (hlnw.out _ h).2; omega
          have hout7 := hu7.heap hout6 hzn
          have hzp7 := hu7.heap hzp.out hzpn
          obtain ⟨n7, hn7⟩ : ∃ n7, ln + n5 = n7 := ⟨_, rfl⟩
          rw [hn7] at ho7
          obtain ⟨_, a7, c7, rfl, -⟩ := id (has_of_owns ho7)
          have k0 := (cells_of hout7).1 0
          have kf := (cells_of hout7).2 0
          have hu8 : Upd (fun j => j = z) w7 (w7.setCell ⟨z, 0, none⟩ (.slice a7 n7 c7)) := Upd.setCell (S := fun j => j = z) w7 (a := ⟨z, 0, none⟩) rfl _
          have hout8 := set_blk (j := 0) hout7 (.slice a7 n7 c7)
          have hzzp : w5.heap.size ≠ z := by have := hUx4.size; omega
          have hzp8 := hu8.heap hzp7 hzzp
          have hp8own := hu8.owns (hu7.owns hownp.out (fun j h1 h2 => hap.out j h2 h1)) (fun j h1 h2 => by have := (hlpw.out j h1).1; omega)
          have hp68 := (hp6.out.upd hu7 (fun j h1 h2 => by have := hxlt.out j h1; have := (hlnw.out j h2).2; omega)).upd hu8 (fun j h1 h2 => by have := hxlt.out j h1; have := hUx4.size; omega)
          have hsrcP := Src.ofHas (P := Try.prog) (tx := 22) Try.underlying22 hp68 (txt_one _)
          rw [hn6e] at hsrcP
          have l1 := (cells_of hout8).1 1
          have lf := (cells_of hout8).2 1
          have m1 := (cells_of hzp8).1 1
          have r1' : lp + n6 ≤ maxLen := by unfold maxLen; omega
          have r2' : (lp + n6) * 16 ≤ 140737488355328 := by omega
          have hz8 := hu8.size
          have r3' : B0 ≤ (w7.setCell ⟨z, 0, none⟩ (.slice a7 n7 c7)).heap.size := by have := hUx4.size; omega
          have hv7 : ∀ j, At (.slice a7 n7 c7) j → B0 ≤ j ∧ ¬ At pv j := fun j hj => ⟨own_ge ho7 hj, fun hp => by
            rcases hf7 j hj with h | h
            · exact hap.out j h hp
            · have := (hlpw.out j hp).2; omega⟩
          replace hsrcP := Lib.hid hsrcP
          replace hp8own := Lib.hid hp8own
          replace hu8 := Lib.hid hu8
          replace hout8 := Lib.hid hout8
          replace hzp8 := Lib.hid hzp8
          replace ho7 := Lib.hid ho7
          replace hv7 := Lib.hid hv7
          replace hu7 := Lib.hid hu7
          clear hp68 hf7 hzp7 hout7 hout6 r1 r2 r3 hown hownp hsrcN g0 g1 gf y0 y1 y2 y3
          go_wp2_with (at_builtin; go_must (refine wpList_app rfl _ _ 22 22 rfl B0 9 (.string ⟨#[]⟩) 1 16 Try.underlying22 hinf.out rfl _ _ _ rfl hp8own.out _ n6 ((prefsOf ((E.drop k).take M)).map txtV) rfl hsrcP.out r1' r2' r3' ?_))
          intro v9 w9 ho9 hu9 hf9
          have hz9 := hu9.size
          have hzq : ¬ At pv z := fun h => by have := (hlpw.out z h).1; omega
          have hzpq : ¬ At pv w5.heap.size := fun h => by have := (hlpw.out _ h).2; omega
          have hout9 := hu9.heap hout8.out hzq
          have hzp9 := hu9.heap hzp8.out hzpq
          obtain ⟨n9, hn9⟩ : ∃ n9, lp + n6 = n9 := ⟨_, rfl⟩
          rw [hn9] at ho9
          obtain ⟨_, a9, c9, rfl, -⟩ := id (has_of_owns ho9)
          have hu10 : Upd (fun j => j = z) w9 (w9.setCell ⟨z, 1, none⟩ (.slice a9 n9 c9)) := Upd.setCell (S := fun j => j = z) w9 (a := ⟨z, 1, none⟩) rfl _
          have hout10 := set_blk (j := 1) hout9 (.slice a9 n9 c9)
          have hzp10 := hu10.heap hzp9 hzzp
          have j1 := (cells_of hout9).1 1
          have jf := (cells_of hout9).2 1
          have hUf : Upd (fun j => j = z) w4 (w9.setCell ⟨z, 1, none⟩ (.slice a9 n9 c9)) := by
            have hB := hUx4.size
            refine (((((hUx4.trans hu6.out fun _ _ h => h.elim).trans hu7.out fun j hj h => ?_).trans hu8.out fun _ _ h => h).trans hu9 fun j hj h => ?_).trans hu10 fun _ _ h => h)
            · have := (hlnw.out j h).1; omega
            · have := (hlpw.out j h).1; omega
          have hO10 : PgO B0 (w9.setCell ⟨z, 1, none⟩ (.slice a9 n9 c9)) (.slice a7 n7 c7) (.slice a9 n9 c9) (E.take (k + M)) := by
            rw [← take_from]
            refine ⟨?_, ?_, fun j h1 h2 => ?_⟩
            · rw [namesOf_app, List.length_append, List.map_append, hln, hn5e, hn7]
              exact hu10.owns (hu9.owns (hu8.out.owns ho7.out fun j h1 h2 => by have := (hv7.out j h1).1; omega) fun j h1 h2 => (hv7.out j h1).2 h2) fun j h1 h2 => by have := (hv7.out j h1).1; omega
            · rw [prefsOf_app, List.length_append, List.map_append, hlp, hn6e, hn9]
              exact hu10.owns ho9 fun j h1 h2 => by have := own_ge ho9 h1; omega
            · rcases hf9 j h2 with h | h
              · exact (hv7.out j h1).2 h
              · have := own_lt ho7.out h1; omega
          have w2' := (cells_of hzp10).1 2
          have w3' := (cells_of hzp10).1 3
          clear hp8own hsrcP hu8 hout8 hzp8 hu9 hf9 ho9 hout9 hzp9 hu10 hzp10 ho7 hv7 hu7 l1 lf m1 r1' r2' r3' k0 kf hap hlnw hlpw hu6 hzp hp6 hxlt
          have hkE : E.take (k + M) = E := List.take_of_length_le (by omega)
          rw [hkE] at hO10
          have hzA10 := hUf.heap hb4.out hzAz
          have hPW : Hid (PgAt (w9.setCell ⟨z, 1, none⟩ (.slice a9 n9 c9)) (.agg #[.slice a7 n7 c7, .slice a9 n9 c9, .string ⟨#[]⟩, .bool false]) ⟨namesOf E, prefsOf E, [], false⟩) := Lib.hid ⟨_, _, rfl, has_of_owns hO10.n, has_of_owns hO10.p⟩
          have hPA10 : Hid (PgAt (w9.setCell ⟨z, 1, none⟩ (.slice a9 n9 c9)) (.agg #[.slice a1 nA c1, .slice a2 pA c2, .string ⟨#[]⟩, .bool false]) ⟨namesOf E, prefsOf E, [], false⟩) := Lib.hid (hPA4.out _ hUf)
          have x0 := (cells_of hzA10).1 0
          have x1 := (cells_of hzA10).1 1
          have x2 := (cells_of hzA10).1 2
          have x3 := (cells_of hzA10).1 3
          have o0 := (cells_of hout10).1 0
          have o1 := (cells_of hout10).1 1
          have o2 := (cells_of hout10).1 2
          have o3 := (cells_of hout10).1 3
          have hUU := Lib.hid ((hu1.out.trans hUz.out fun _ _ h => h).trans hUf fun j hj e => by have h1 := hu1.out.size; have h2 := hzw.out; omega)
          clear hO10 hUf hkE
          go_wp2_with fail
          refine (rSameT _ _ _ _ _ hPW.out hPA10.out rfl).mono ?_
          rintro e w11 ⟨rfl, hu11⟩
          have hq3 := hu11.cell x3 fun h => h
          have hU11 := hUU.out.trans hu11 fun _ _ h => h
          clear x0 x1 x2 x3 o0 o1 o2 o3 hu11
          simp only []
          go_wp2_with fail
          refine (lives20 _).mono ?_
          rintro e w8 ⟨rfl, u8⟩
          have hU8 := hU11.trans u8 fun _ _ h => h
          simp only []
          go_wp2_with fail
          go_ret
          exact ⟨rfl, hU8⟩
theorem lListingWhole (nv : Value) (l : List Str) (p d : Str) (m : Int) (w : World) (hT : Txts w nv l) (hs : ∀ s ∈ l, s.length ≤ 140737488355328) : Calls Try.prog 4 #[nv, txtV p, txtV d, .int .i64 m] w (Ret (.bool true) w) := by
  by_cases hn : 50 < l.length
  · exact lWholeMany nv l p d m w hT hn
  · by_cases hc : p.length ≤ 32 ∧ d.length ≤ 1
    · exact lWholeGood nv l p d m w hT (by omega) hs hc.1 hc.2
    · exact lWholeBad nv l p d m w hT (by omega) hs hc
end Go.Proofs.Ytphdclafeijpnaa
