/- The walk over ListingEach. -/
import Derived.Test.YtphdclafeijpnaaLsV
import Derived.Test.YtphdclafeijpnaaLsY
import Derived.Laws.MakeOwn
namespace Go.Amb
/-- The first k of A, then those of B. -/
def mixed {α : Type} (A B : List α) (k : Nat) : List α := A.take k ++ B.drop k
theorem mixed_get {α : Type} {A B : List α} (h : A.length = B.length) (k : Nat) (hk : k < B.length) : (mixed A B k)[k]? = some B[k] := by
  unfold mixed
  rw [List.getElem?_append_right (by rw [List.length_take]; omega), List.length_take, Nat.min_eq_left (by omega), Nat.sub_self, List.getElem?_drop, Nat.add_zero, List.getElem?_eq_getElem hk]
theorem mixed_set {α : Type} {A B : List α} (h : A.length = B.length) (k : Nat) (hk : k < A.length) : (mixed A B k).set k A[k] = mixed A B (k + 1) := by
  unfold mixed
  rw [List.set_append_right _ _ (by rw [List.length_take]; omega), List.length_take, Nat.min_eq_left (by omega), Nat.sub_self, List.drop_eq_getElem_cons (by omega), List.set_cons_zero, List.take_succ_eq_append_getElem hk, List.append_assoc]; rfl
theorem mixed_same {α : Type} {A B : List α} (h : A.length = B.length) (k : Nat) (hk : k < A.length) (he : A[k] = B[k]'(by omega)) : mixed A B (k + 1) = mixed A B k := by
  unfold mixed
  rw [List.take_succ_eq_append_getElem hk, he, List.append_assoc, List.drop_eq_getElem_cons (show k < B.length by omega)]; rfl
def qual (p s : Str) : Bool := begins s p && !s.isEmpty
def usedN (p : Str) (Q o : List Str) (i : Nat) : List Nat := Q.map fun q => (o.take i).countP fun s => qual p s && begins s q
def seenN (p d : Str) (o : List Str) (i : Nat) : Nat := (o.take i).countP fun s => qual p s && !(entOf s p d).2
theorem usedN_length (p : Str) (Q o : List Str) (i : Nat) : (usedN p Q o i).length = Q.length := List.length_map ..
theorem usedN_get (p : Str) (Q o : List Str) (i k : Nat) (h : k < Q.length) (h' : k < (usedN p Q o i).length) : (usedN p Q o i)[k] = (o.take i).countP fun s => qual p s && begins s Q[k] := by simp [usedN]
theorem countP_next {f : Str → Bool} {o : List Str} {i : Nat} (h : i < o.length) : (o.take (i + 1)).countP f = (o.take i).countP f + if f o[i] then 1 else 0 := by
  rw [List.take_succ_eq_append_getElem h, List.countP_append]; simp [List.countP_cons]
theorem usedN_skip {p : Str} {Q o : List Str} {i : Nat} (h : i < o.length) (hq : qual p o[i] = false) : usedN p Q o (i + 1) = usedN p Q o i := by
  unfold usedN
  refine List.map_congr_left fun q _ => ?_
  rw [countP_next h, hq]; simp
theorem seenN_skip {p d : Str} {o : List Str} {i : Nat} (h : i < o.length) (hq : qual p o[i] = false) : seenN p d o (i + 1) = seenN p d o i := by
  unfold seenN
  rw [countP_next h, hq]; simp
theorem countP_le_take (f : Str → Bool) (o : List Str) (i : Nat) : (o.take i).countP f ≤ o.length := by
  refine Nat.le_trans List.countP_le_length ?_
  rw [List.length_take]; omega
theorem usedN_zero (p : Str) (Q o : List Str) : usedN p Q o 0 = List.replicate Q.length 0 := by
  unfold usedN
  rw [List.take_zero]
  exact List.eq_replicate_iff.2 ⟨by simp, fun b hb => by obtain ⟨q, -, rfl⟩ := List.mem_map.1 hb; rfl⟩
theorem count_next {N : List Str} {s : Str} {k : Nat} (h : k < N.length) : (N.take (k + 1)).count s = (N.take k).count s + if N[k] = s then 1 else 0 := by
  rw [List.take_succ_eq_append_getElem h, List.count_append, List.count_cons]; simp
theorem qual_at {p s : Str} (h : begins s p = true) (hn : s ≠ []) : qual p s = true := by unfold qual; rw [h]; cases s <;> simp_all
/-- Numbers as cells. -/
def nc (l : List Nat) : Array Value := (l.map fun (n : Nat) => Value.int .i64 (n : Int)).toArray
theorem nc_get {l : List Nat} {k n : Nat} (h : l[k]? = some n) : (nc l)[k]? = some (.int .i64 (n : Int)) := by
  unfold nc; simp [h]
theorem nc_set (l : List Nat) (k n : Nat) : (nc l).setIfInBounds k (.int .i64 (n : Int)) = nc (l.set k n) := by
  unfold nc
  rw [List.setIfInBounds_toArray, List.map_set]
end Go.Amb
namespace Go.Proofs.Ytphdclafeijpnaa
open Go.RowKit Go.Amb Go.Shelf
set_option linter.unusedVariables false
set_option linter.unusedSimpArgs false
set_option maxRecDepth 100000
theorem run_makeI (m : Nat) (hm : m ≤ 1000000) (w : World) : (Instr.makeSlice 36 (.int .i64 (m : Int)) (.int .i64 (m : Int))).run Try.prog w = .ok (.slice (some ⟨w.heap.size, 0, none⟩) m m) (w.alloc (.cells (nc (List.replicate m 0)) 3)) := by
  obtain ⟨i, hi, hz0, hsz, hby⟩ := info_parts (show (Try.prog.info? 3).map (fun i => (i.zero, i.size, i.bytes)) = some (some (.int .i64 0), 1, 8) by kernel_rfl)
  have hr := run_make (P := Try.prog) w 36 3 i _ Try.underlying36 hi hz0 .i64 .i64 (m : Int) (m : Int) (by omega) (by omega) (by rw [hby]; omega) (by omega)
  rw [hr, hsz]
  simp only [Int.toNat_natCast, Nat.mul_one]
  congr 3
  apply Array.ext_getElem?
  intro k
  simp only [madeCells, Value.cells, Array.getElem?_map, Array.getElem?_range, nc, List.map_replicate, List.getElem?_toArray, List.getElem?_replicate]
  by_cases hk : k < m <;> simp [hk, Nat.mod_one]
set_option maxHeartbeats 1000000 in
theorem lStarts (s p : Str) (w : World) : Calls Try.prog 13 #[txtV s, txtV p] w (Ret (.bool (begins s p)) w) := by
  unfold txtV
  by_cases h : p.length ≤ s.length
  · have h' : (p.length : Int) ≤ (s.length : Int) := by omega
    have hsub := run_subTo (P := Try.prog) 9 Try.underlying9 s p.length p.length rfl h
    have hb : begins s p = (s.take p.length == p) := by rw [begins_iff]; simp [h]
    rw [hb]
    go_enter Try.func13, Try.ntmps13
    go_wp2_with fail
    go_ret
    exact ⟨by simp, Upd.refl _ _⟩
  · have h' : ¬ (p.length : Int) ≤ (s.length : Int) := by omega
    have hb : begins s p = false := by rw [begins_iff]; simp [h]
    rw [hb]
    go_enter Try.func13, Try.ntmps13
    go_wp2_with fail
    go_ret
    exact ⟨rfl, Upd.refl _ _⟩
set_option maxHeartbeats 2000000 in
theorem lEachMany (nv : Value) (l : List Str) (p d : Str) (w : World) (hT : Txts w nv l) (hn : 50 < l.length) : Calls Try.prog 5 #[nv, txtV p, txtV d] w (Ret (.bool true) w) := by
  obtain ⟨va, vc, rfl, -⟩ := txts_at hT
  obtain ⟨n, hnn⟩ : ∃ n, l.length = n := ⟨_, rfl⟩
  rw [hnn] at hn ⊢
  have h1 : (50 : Int) < (n : Int) := by omega
  clear hT hnn
  unfold txtV
  go_enter Try.func5, Try.ntmps5
  go_wp2_with fail
  refine (lives20 _).mono ?_
  rintro e w8 ⟨rfl, u8⟩
  have hU8 := (Upd.refl Non w).trans u8 fun _ _ h => h
  simp only []
  go_wp2_with fail
  go_ret
  exact ⟨rfl, hU8⟩
set_option maxHeartbeats 4000000 in
theorem lEachBad (nv : Value) (l : List Str) (p d : Str) (w : World) (hT : Txts w nv l) (hn : l.length ≤ 50) (hs : ∀ s ∈ l, s.length ≤ 140737488355328) (hc : ¬ (p.length ≤ 32 ∧ d.length ≤ 1)) : Calls Try.prog 5 #[nv, txtV p, txtV d] w (Ret (.bool true) w) := by
  have cS := Lib.hid (lSorted nv l w hT (by omega))
  obtain ⟨va, vc, rfl, -⟩ := txts_at hT
  obtain ⟨n, hnn⟩ : ∃ n, l.length = n := ⟨_, rfl⟩
  rw [hnn] at hn cS ⊢
  have h1 : ((50 : Int) < (n : Int)) = False := eq_false (by omega)
  have hck : ¬ ckOk p d [] 50 := fun h => hc ⟨h.1, h.2.1⟩
  have hpP : ∀ o, page p d [] 50 o = Pg.none := fun o => by unfold page; rw [if_neg (fun h => hck h.1)]
  have hpE : ∀ o, pageE p d [] 50 o = 2 := fun o => by unfold pageE; rw [if_neg hck]
  have cP := Lib.hid (fun w' v o (hT : Txts w' v o) (hl : ∀ k, At v k → k < w'.heap.size) (hn : o.length ≤ 500) (hs : ∀ s ∈ o, s.length ≤ 140737488355328) => lPageY v o p d [] 50 w' hT hl hn hs (by omega) _ _ (hpP o) (hpE o))
  replace hs := Lib.hid hs
  clear hT hck hpP hpE hc
  unfold txtV at *
  go_enter Try.func5, Try.ntmps5
  go_wp2_with fail
  refine cS.out.mono ?_
  rintro e w1 ⟨v, o, rfl, hTo, hvo, hAo, hmo, hlo, hu1⟩
  have hv1 : ∀ k, At v k → k < w1.heap.size := fun k hk => (hvo k hk).2
  have cQ := Lib.hid (cP.out w1 v o hTo hv1 (by omega) (fun s h => hs.out s (hmo s h)))
  obtain ⟨oa, oc, rfl, -⟩ := txts_at hTo
  clear hTo hvo hAo hmo hlo hv1 cP cS
  simp only []
  go_wp2_with fail
  refine cQ.out.mono ?_
  rintro e w2 ⟨a1, c1, a2, c2, rfl, hn2, hp2, hnw, hu2⟩
  have hA := Upd.alloc Non w2 (.cells #[.slice a1 Pg.none.n.length c1, .slice a2 Pg.none.p.length c2, .string ⟨Pg.none.x.toArray⟩, .bool Pg.none.m] 26)
  have hU := (hu1.trans hu2 fun _ _ h => h).trans hA fun _ _ h => h
  clear hA hn2 hp2 hnw hu1 hu2 cQ
  simp only []
  go_wp2_with fail
  refine (lives20 _).mono ?_
  rintro e w8 ⟨rfl, u8⟩
  have hU8 := hU.trans u8 fun _ _ h => h
  simp only []
  go_wp2_with fail
  go_ret
  exact ⟨rfl, hU8⟩
set_option maxHeartbeats 8000000 in
theorem lEachGood (nv : Value) (l : List Str) (p d : Str) (w : World) (hT : Txts w nv l) (hn : l.length ≤ 50) (hs : ∀ s ∈ l, s.length ≤ 140737488355328) (hp32 : p.length ≤ 32) (hd1 : d.length ≤ 1) : Calls Try.prog 5 #[nv, txtV p, txtV d] w (Ret (.bool true) w) := by
  have cS := Lib.hid (lSorted nv l w hT (by omega))
  obtain ⟨va, vc, rfl, -⟩ := txts_at hT
  obtain ⟨n, hnn⟩ : ∃ n, l.length = n := ⟨_, rfl⟩
  rw [hnn] at hn cS ⊢
  have h1 : ((50 : Int) < (n : Int)) = False := eq_false (by omega)
  have cP := Lib.hid (fun w' v (o : List Str) (a : Str) (m : Int) (hT : Txts w' v o) (hl : ∀ k, At v k → k < w'.heap.size) (hn : o.length ≤ 500) (hs : ∀ s ∈ o, s.length ≤ 140737488355328) (hm : -9223372036854775808 ≤ m) (pg : Pg) (hp : page p d a m o = pg) (he : pageE p d a m o = 0) => lPageY v o p d a m w' hT hl hn hs hm pg 0 hp he)
  replace hs := Lib.hid hs
  clear hT
  unfold txtV at *
  go_enter Try.func5, Try.ntmps5
  go_wp2_with fail
  refine cS.out.mono ?_
  rintro e w1 ⟨v, o, rfl, hTo, hvo, hAo, hmo, hlo, hu1⟩
  have hv1 : ∀ k, At v k → k < w1.heap.size := fun k hk => (hvo k hk).2
  have hso : ∀ s ∈ o, s.length ≤ 140737488355328 := fun s h => hs.out s (hmo s h)
  obtain ⟨E, hE⟩ : ∃ E, ents p d [] o = E := ⟨_, rfl⟩
  have ho50 : o.length ≤ 50 := by omega
  have hE50 : E.length ≤ 50 := by rw [← hE]; exact Nat.le_trans (entsFrom_le _ _ _ _ _) ho50
  obtain ⟨q1, q2⟩ := page_whole hAo hE hE50 hp32 hd1
  have cQ := Lib.hid (cP.out w1 v o [] 50 hTo hv1 (by omega) hso (by omega) _ q2 q1)
  obtain ⟨oa, oc, rfl, -⟩ := txts_at hTo
  obtain ⟨on, hon⟩ : ∃ on, o.length = on := ⟨_, rfl⟩
  have hTo' : Txts w1 (.slice oa on oc) o := by rw [← hon]; exact hTo
  rw [hon] at hv1 cQ hvo ⊢
  replace hTo' := Lib.hid hTo'
  replace hso := Lib.hid hso
  replace hv1 := Lib.hid hv1
  replace hu1 := Lib.hid hu1
  -- the plain facts
  obtain ⟨N, hN⟩ : ∃ N, namesOf E = N := ⟨_, rfl⟩
  obtain ⟨Q, hQ⟩ : ∃ Q, prefsOf E = Q := ⟨_, rfl⟩
  have hNl : N.length ≤ 50 := by rw [← hN]; exact Nat.le_trans (namesOf_le E) hE50
  have hQl : Q.length ≤ 50 := by rw [← hQ]; exact Nat.le_trans (prefsOf_le E) hE50
  have F1 : Hid (∀ s ∈ o, begins s p = true → s ≠ [] → ((entOf s p d).2 = false ∧ N.count s = 1 ∧ Q.countP (begins s) = 0) ∨ ((entOf s p d).2 = true ∧ N.count s = 0 ∧ Q.countP (begins s) = 1)) := Lib.hid (fun s h1 h2 h3 => by rw [← hN, ← hQ, ← hE]; exact each_name hd1 hAo h1 h2 h3)
  have F2 : Hid (∀ q ∈ Q, (∃ s ∈ o, begins s p = true ∧ s ≠ [] ∧ begins s q = true) ∧ p.length < q.length ∧ begins q p = true ∧ q.drop (q.length - 1) = d) := Lib.hid (fun q hq => by rw [← hQ, ← hE] at hq; exact each_prefix hd1 hq)
  have F4 : Hid (seenN p d o o.length = N.length) := Lib.hid (by
    rw [← hN, ← hE, names_all hd1 hAo, ← List.countP_eq_length_filter]
    unfold seenN qual
    rw [List.take_length])
  have F5 : Hid (d = [] → Q = []) := Lib.hid (fun h => by subst h; rw [← hQ, ← hE]; exact prefs_none)
  rw [hN, hQ] at cQ
  obtain ⟨nA, hnA⟩ : ∃ x, N.length = x := ⟨_, rfl⟩
  obtain ⟨pA, hpA⟩ : ∃ x, Q.length = x := ⟨_, rfl⟩
  clear hTo hvo hmo q1 q2 cS hs cP hAo hE hE50 hN hQ
  simp only []
  go_wp2_with fail
  refine cQ.out.mono ?_
  rintro e w2 ⟨a1, c1, a2, c2, rfl, hn2, hp2, hnw, hu2⟩
  simp only at hn2 hp2 hnw ⊢
  rw [hnA] at hn2 hnw ⊢
  rw [hpA] at hp2 hnw ⊢
  have hb := heap_alloc_new w2 (.cells #[.slice a1 nA c1, .slice a2 pA c2, .string ⟨#[]⟩, .bool false] 26)
  have hA := Upd.alloc Non w2 (.cells #[.slice a1 nA c1, .slice a2 pA c2, .string ⟨#[]⟩, .bool false] 26)
  have hmk := run_makeI pA (by omega)
  have b0 := (cells_of hb).1 0
  have b1 := (cells_of hb).1 1
  have hnn2 := hn2.non hA
  have hpp2 := hp2.non hA
  have hU := Lib.hid (hu2.trans hA fun _ _ h => h)
  have hz14' := hu2.size
  obtain ⟨zA, hzA⟩ : ∃ zA, w2.heap.size = zA := ⟨_, rfl⟩
  have hAn : Hid (∀ k, At (.slice a1 nA c1) k ∨ At (.slice a2 pA c2) k → k < zA) := Lib.hid (fun k hk => by have := (hnw k hk).2; omega)
  clear hn2 hp2 hnw hu2 cQ hA
  have hub0 := heap_alloc_new (w2.alloc (.cells #[.slice a1 nA c1, .slice a2 pA c2, .string ⟨#[]⟩, .bool false] 26)) (.cells (nc (List.replicate pA 0)) 3)
  have hA3 := Upd.alloc Non (w2.alloc (.cells #[.slice a1 nA c1, .slice a2 pA c2, .string ⟨#[]⟩, .bool false] 26)) (.cells (nc (List.replicate pA 0)) 3)
  have hb4 := hA3.heap hb fun h => h
  have hNN4 := hnn2.non hA3
  have hQQ4 := hpp2.non hA3
  have hU4 := hU.out.trans hA3 fun _ _ h => h
  rw [World.size_alloc, hzA] at hub0
  rw [hzA] at hb4
  have hz14 : w1.heap.size ≤ zA := by rw [← hzA]; exact hz14'
  replace hub0 := Lib.hid hub0
  replace hb4 := Lib.hid hb4
  replace hNN4 := Lib.hid hNN4
  replace hQQ4 := Lib.hid hQQ4
  replace hU4 := Lib.hid hU4
  clear hA3 hU
  go_wp2_with fail
  obtain ⟨w4, hw4⟩ : ∃ w4, (w2.alloc (.cells #[.slice a1 nA c1, .slice a2 pA c2, .string ⟨#[]⟩, .bool false] 26)).alloc (.cells (nc (List.replicate pA 0)) 3) = w4 := ⟨_, rfl⟩
  rw [hw4] at hub0 hb4 hNN4 hQQ4 hU4 ⊢
  clear hw4 hb b0 b1 hnn2 hpp2 hmk
  obtain ⟨ub, hub⟩ : ∃ ub, zA + 1 = ub := ⟨_, rfl⟩
  rw [hub] at hub0 ⊢
  have hoz : Hid (∀ j, At (.slice oa on oc) j → ¬ j = ub) := Lib.hid (fun j hj e => by have := hv1.out j hj; omega)
  have hNz : Hid (∀ j, At (.slice a1 nA c1) j → ¬ j = ub) := Lib.hid (fun j hj e => by have := hAn.out j (.inl hj); omega)
  have hQz : Hid (∀ j, At (.slice a2 pA c2) j → ¬ j = ub) := Lib.hid (fun j hj e => by have := hAn.out j (.inr hj); omega)
  have hTo4 := Lib.hid (hTo'.out.non hU4.out)
  go_loopw [10, 12] (fun sv iv wx => ∃ i : Nat, iv = .int .i64 (i : Int) ∧ i ≤ on ∧ sv = .int .i64 (seenN p d o i : Int) ∧ wx.heap[ub]? = some (.cells (nc (usedN p Q o i)) 3 (0, 0)) ∧ Upd (fun j => j = ub) w4 wx) (fun _ iv _ => on - (intOf iv).toNat)
  case atStart => exact ⟨0, rfl, by omega, rfl, by rw [usedN_zero, hpA]; exact hub0.out, Upd.refl _ _⟩
  case round =>
    obtain ⟨i, rfl, hi, rfl, hus, hux⟩ := hrel
    obtain ⟨wx, hwx⟩ : ∃ wx, wx = wr := ⟨_, rfl⟩
    subst hwx
    have hseen : seenN p d o i ≤ 50 := Nat.le_trans (countP_le_take _ o i) ho50
    by_cases hin : i < on
    · have hin' : (i : Int) < (on : Int) := by omega
      have hi0 : (0 : Int) ≤ (i : Int) := by omega
      have hil : i < o.length := by omega
      obtain ⟨_, _, e, hat⟩ := txts_at (hTo4.out.upd hux hoz.out)
      injection e with e1 e2 e3
      subst e1
      clear e2 e3
      obtain ⟨g, off, rfl, hx⟩ := hat i hil
      obtain ⟨s, hse⟩ : ∃ s, o[i] = s := ⟨_, rfl⟩
      rw [hse] at hx
      unfold txtV at hx
      have hsm : s ∈ o := hse ▸ List.getElem_mem hil
      have cT := Lib.hid (fun w => lStarts s p w)
      unfold txtV at cT
      clear hat
      by_cases hbg : begins s p = true
      · by_cases hse0 : s = []
        · have hq : qual p o[i] = false := by rw [hse, hse0]; simp [qual]
          have hsk1 := usedN_skip (Q := Q) hil hq
          have hsk2 := seenN_skip (d := d) hil hq
          subst hse0
          rw [hbg] at cT
          replace hse := Lib.hid hse
          go_wp2_with fail
          refine (cT.out _).mono ?_
          rintro e w6 ⟨rfl, hu6⟩
          have hx6 := hu6.cell hx fun h => h
          have hus6 := hu6.heap hus fun h => h
          have hux6 := hux.trans hu6 fun _ _ h => h.elim
          clear hu6 hus hux hx
          simp only []
          go_wp2_with fail
          go_roundw
          case rel => exact ⟨i + 1, by go_num, by omega, by rw [hsk2], by rw [hsk1]; exact hus6, hux6⟩
          case measure => simp [intOf]; omega
        · have hq : qual p o[i] = true := by rw [hse]; exact qual_at hbg hse0
          have hF1 := F1.out s hsm hbg hse0
          have hsn : seenN p d o (i + 1) = seenN p d o i + N.count s := by
            unfold seenN
            rw [countP_next hil, hq, hse]
            rcases hF1 with ⟨g1, g2, -⟩ | ⟨g1, g2, -⟩ <;> rw [g1, g2] <;> simp
          have hone : N.count s + Q.countP (begins s) = 1 := by rcases hF1 with ⟨-, g2, g3⟩ | ⟨-, g2, g3⟩ <;> omega
          have hun : ∀ k (h : k < Q.length), (usedN p Q o (i + 1))[k]'(by rw [usedN_length]; exact h) = (usedN p Q o i)[k]'(by rw [usedN_length]; exact h) + if begins s Q[k] then 1 else 0 := fun k h => by
            rw [usedN_get _ _ _ _ _ h, usedN_get _ _ _ _ _ h, countP_next hil, hq, hse]; rfl
          have hu50 : ∀ k (h : k < Q.length), (usedN p Q o i)[k]'(by rw [usedN_length]; exact h) ≤ 50 := fun k h => by
            rw [usedN_get _ _ _ _ _ h]; exact Nat.le_trans (countP_le_take _ o i) ho50
          have f1 : ([] = s) = False := eq_false (fun e => hse0 e.symm)
          have f2 : ([] == s) = false := by simp; exact fun e => hse0 e
          have f3 : (s = []) = False := eq_false hse0
          have f4 : (s == []) = false := by simp [hse0]
          have hTN := hNN4.out.upd hux hNz.out
          have hTQ := hQQ4.out.upd hux hQz.out
          have hb6 := hux.heap hb4.out (by omega)
          obtain ⟨s0, hs0⟩ : ∃ x, seenN p d o i = x := ⟨_, rfl⟩
          rw [hs0] at hseen hsn ⊢
          rw [hbg] at cT
          replace hsn := Lib.hid hsn
          replace hone := Lib.hid hone
          replace hun := Lib.hid hun
          replace hu50 := Lib.hid hu50
          replace hse := Lib.hid hse
          replace hTN := Lib.hid hTN
          replace hTQ := Lib.hid hTQ
          replace hus := Lib.hid hus
          replace hux := Lib.hid hux
          clear hF1 hq hse0 hbg
          go_wp2_with fail
          refine (cT.out _).mono ?_
          rintro e w6 ⟨rfl, hu6⟩
          have hx6 := hu6.cell hx fun h => h
          have hb66 := Lib.hid (hu6.heap hb6 fun h => h)
          have hu6' := Lib.hid hu6
          clear hu6 hx hb6
          simp only []
          go_wp2_with fail
          go_loopw [10, 13, 14] (fun sv hv kv wy => ∃ (k h : Nat), kv = .int .i64 (k : Int) ∧ k ≤ nA ∧ hv = .int .i64 (h : Int) ∧ h ≤ k ∧ sv = .int .i64 ((s0 + h : Nat) : Int) ∧ Hid (h = (N.take k).count s) ∧ Upd Non w6 wy) (fun _ _ kv _ => nA - (intOf kv).toNat)
          case atStart => exact ⟨0, 0, rfl, by omega, rfl, by omega, rfl, Lib.hid (by simp), Upd.refl _ _⟩
          case round =>
            obtain ⟨k, h, rfl, hk, rfl, hhk, rfl, hcnt, huy⟩ := hrel
            have hk0 : (0 : Int) ≤ (k : Int) := by omega
            have hby := huy.heap hb66.out fun h => h
            have b0 := (cells_of hby).1 0
            have hx7 := huy.cell hx6 fun h => h
            obtain ⟨m, hm⟩ : ∃ m, s0 + h = m := ⟨_, rfl⟩
            rw [hm]
            by_cases hkn : k < nA
            · have hkn' : (k : Int) < (nA : Int) := by omega
              obtain ⟨_, _, e, hat⟩ := txts_at ((hTN.out.non hu6'.out).non huy)
              rw [hnA] at e
              injection e with e1 e2 e3
              subst e1
              clear e2 e3
              obtain ⟨g5, o5, rfl, hy⟩ := hat k (by omega)
              obtain ⟨t, hte⟩ : ∃ t, N[k]'(by omega) = t := ⟨_, rfl⟩
              rw [hte] at hy
              unfold txtV at hy
              have hcn := count_next (s := s) (show k < N.length by omega)
              rw [hte, ← hcnt.out] at hcn
              have hw1 := Lib.hid (IntWalk.i64_in ((h : Int) + 1) ⟨by omega, by omega⟩)
              have hw2 := Lib.hid (IntWalk.i64_in ((m : Int) + 1) ⟨by omega, by omega⟩)
              clear hat
              replace hte := Lib.hid hte
              by_cases hts : t = s
              · subst hts
                rw [if_pos rfl] at hcn
                replace hcn := Lib.hid hcn
                replace hw1 := hw1.out
                replace hw2 := hw2.out
                go_wp2_with fail
                go_quiet (fail)
                go_wp2_with fail
                clear hw1 hw2
                go_roundw
                case rel => exact ⟨k + 1, h + 1, by go_num, by omega, by go_num, by omega, by rw [← Nat.add_assoc, hm]; go_num, Lib.hid hcn.out.symm, huy.then_drewN _⟩
                case measure => simp [intOf]; omega
              · rw [if_neg hts] at hcn
                replace hcn := Lib.hid hcn
                have z1 : (t = s) = False := eq_false hts
                have z2 : (t == s) = false := by simp [hts]
                have z3 : (s = t) = False := eq_false (fun e => hts e.symm)
                have z4 : (s == t) = false := by simp; exact fun e => hts e.symm
                replace hts := Lib.hid hts
                go_wp2_with fail
                go_quiet (fail)
                go_wp2_with fail
                go_roundw
                case rel => exact ⟨k + 1, h, by go_num, by omega, rfl, by omega, by rw [hm], Lib.hid (by rw [hcn.out, Nat.add_zero]), huy.then_drewN _⟩
                case measure => simp [intOf]; omega
            · obtain rfl : k = nA := by omega
              have hkn' : ((k : Int) < (k : Int)) = False := eq_false (by omega)
              have hh : h = N.count s := by rw [hcnt.out, List.take_of_length_le (by omega)]
              have hUy := Lib.hid (hux.out.trans (hu6'.out.trans huy fun _ _ h => h) fun _ _ h => h.elim)
              have husy := Lib.hid (huy.heap (hu6'.out.heap hus.out fun h => h) fun h => h)
              replace hh := Lib.hid hh
              clear hcnt hby hkn
              obtain ⟨wz, hwz⟩ : ∃ wz, wz = wr := ⟨_, rfl⟩
              subst hwz
              have hb7 := Lib.hid (hUy.out.heap hb4.out (by omega))
              have hTQz := Lib.hid (hQQ4.out.upd hUy.out hQz.out)
              have hx9 := Lib.hid hx7
              have hm0 := Lib.hid hm
              clear huy hx6
              go_wp2_with fail
              go_loopw [13, 15] (fun hv kv wy => ∃ k : Nat, kv = .int .i64 (k : Int) ∧ k ≤ pA ∧ hv = .int .i64 ((N.count s + (Q.take k).countP (begins s) : Nat) : Int) ∧ wy.heap[ub]? = some (.cells (nc (mixed (usedN p Q o (i + 1)) (usedN p Q o i) k)) 3 (0, 0)) ∧ Upd (fun j => j = ub) wz wy) (fun _ kv _ => pA - (intOf kv).toNat)
              case atStart => exact ⟨0, rfl, by omega, by rw [hh.out]; simp, by have e : mixed (usedN p Q o (i + 1)) (usedN p Q o i) 0 = usedN p Q o i := rfl; rw [e]; exact husy.out, Upd.refl _ _⟩
              case round =>
                obtain ⟨k, rfl, hk, rfl, hrow, huz⟩ := hrel
                have hk0 : (0 : Int) ≤ (k : Int) := by omega
                have hbz := huz.heap hb7.out (by omega)
                have b1 := (cells_of hbz).1 1
                have hgub : ¬ g = ub := by
                  intro e
                  exact hoz.out g (by simp [At, Value.ownBlock]) e
                have hxz := huz.cell hx9.out hgub
                obtain ⟨m, hm⟩ : ∃ m, N.count s + (Q.take k).countP (begins s) = m := ⟨_, rfl⟩
                have hm50 : m ≤ 51 := by
                  have h1 := hone.out
                  have h2 : (Q.take k).countP (begins s) ≤ Q.countP (begins s) := (List.take_sublist k Q).countP_le
                  omega
                rw [hm]
                have hlen : (usedN p Q o (i + 1)).length = (usedN p Q o i).length := by rw [usedN_length, usedN_length]
                by_cases hkn : k < pA
                · have hkn' : (k : Int) < (pA : Int) := by omega
                  have hkQ : k < Q.length := by omega
                  obtain ⟨_, _, e, hat⟩ := txts_at (hTQz.out.upd huz hQz.out)
                  rw [hpA] at e
                  injection e with e1 e2 e3
                  subst e1
                  clear e2 e3
                  obtain ⟨g5, o5, rfl, hy⟩ := hat k hkQ
                  obtain ⟨q, hqe⟩ : ∃ q, Q[k] = q := ⟨_, rfl⟩
                  rw [hqe] at hy
                  unfold txtV at hy
                  have hcn := countP_next (f := begins s) hkQ
                  rw [hqe] at hcn
                  have hunk := hun.out k hkQ
                  rw [hqe] at hunk
                  have hgetk := mixed_get hlen k (by rw [usedN_length]; exact hkQ)
                  have hf50 := hu50.out k hkQ
                  obtain ⟨f, hf⟩ : ∃ f, (usedN p Q o i)[k]'(by rw [usedN_length]; exact hkQ) = f := ⟨_, rfl⟩
                  rw [hf] at hgetk hunk hf50
                  have cU := Lib.hid (fun w => lStarts s q w)
                  unfold txtV at cU
                  clear hat
                  by_cases hbq : begins s q = true
                  · rw [hbq] at cU
                    rw [if_pos hbq] at hcn hunk
                    have hset := mixed_set hlen k (by rw [usedN_length]; exact hkQ)
                    rw [hunk] at hset
                    have hcm : N.count s + (Q.take (k + 1)).countP (begins s) = m + 1 := by rw [hcn, ← hm, Nat.add_assoc]
                    replace hcm := Lib.hid hcm
                    replace hset := Lib.hid hset
                    clear hcn hunk
                    replace hgetk := Lib.hid hgetk
                    have hw1 := Lib.hid (IntWalk.i64_in ((m : Int) + 1) ⟨by omega, by omega⟩)
                    have hw2 := Lib.hid (IntWalk.i64_in ((f : Int) + 1) ⟨by omega, by omega⟩)
                    replace hf := Lib.hid hf
                    replace hqe := Lib.hid hqe
                    go_wp2_with fail
                    (refine wp_tail 9 (by kernel_rfl) (by kernel_rfl) ?_; simp only [List.take_succ_cons, List.take_zero, List.drop_succ_cons, List.drop_zero]; (repeat still_step); refine wpStill_nil ?_)
                    go_wp2_with fail
                    refine (cU.out _).mono ?_
                    rintro e w8 ⟨rfl, hu8⟩
                    have hu8' : Upd Non wr w8 := (Upd.drew Non wr).trans hu8 fun _ _ h => h
                    have hrow8 := hu8'.heap hrow fun h => h
                    have hcell := ((cells_of hrow8).1 k).trans (nc_get hgetk.out)
                    have hfree := (cells_of hrow8).2 k
                    have hsetb := set_blk (j := k) hrow8 (.int .i64 ((f : Int) + 1))
                    have hupd := (huz.trans hu8' fun _ _ h => h.elim).then_setCell (p := ⟨ub, k, none⟩) (fun _ => rfl) (.int .i64 ((f : Int) + 1))
                    replace hsetb := Lib.hid hsetb
                    clear hu8 hu8' hrow8 hrow b1 hxz hy hbz
                    replace hw1 := hw1.out
                    replace hw2 := hw2.out
                    simp only []
                    go_wp2_with fail
                    clear hw1 hw2
                    go_roundw
                    case rel =>
                      refine ⟨k + 1, by go_num, by omega, by rw [hcm.out]; go_num, ?_, hupd⟩
                      rw [← hset.out, ← nc_set]
                      exact hsetb.out
                    case measure => simp [intOf]; omega
                  · have hbq' : begins s q = false := by simpa using hbq
                    rw [hbq'] at cU
                    rw [if_neg hbq] at hcn hunk
                    have hsame := mixed_same hlen k (by rw [usedN_length]; exact hkQ) (by rw [hunk, hf]; rfl)
                    have hcm : N.count s + (Q.take (k + 1)).countP (begins s) = m := by rw [hcn, ← hm]; rfl
                    replace hcm := Lib.hid hcm
                    replace hsame := Lib.hid hsame
                    clear hcn hunk hgetk hbq
                    replace hf := Lib.hid hf
                    replace hqe := Lib.hid hqe
                    go_wp2_with fail
                    (refine wp_tail 9 (by kernel_rfl) (by kernel_rfl) ?_; simp only [List.take_succ_cons, List.take_zero, List.drop_succ_cons, List.drop_zero]; (repeat still_step); refine wpStill_nil ?_)
                    go_wp2_with fail
                    refine (cU.out _).mono ?_
                    rintro e w8 ⟨rfl, hu8⟩
                    have hu8' : Upd Non wr w8 := (Upd.drew Non wr).trans hu8 fun _ _ h => h
                    have hrow8 := hu8'.heap hrow fun h => h
                    have hupd := huz.trans hu8' fun _ _ h => h.elim
                    clear hu8 hu8' hrow b1 hxz hy hbz
                    simp only []
                    go_wp2_with fail
                    go_roundw
                    case rel => exact ⟨k + 1, by go_num, by omega, by rw [hcm.out], by rw [hsame.out]; exact hrow8, hupd⟩
                    case measure => simp [intOf]; omega
                · obtain rfl : k = pA := by omega
                  have hkn' : ((k : Int) < (k : Int)) = False := eq_false (by omega)
                  have hm1 : m = 1 := by rw [← hm, List.take_of_length_le (by omega)]; exact hone.out
                  subst hm1
                  have hmix : mixed (usedN p Q o (i + 1)) (usedN p Q o i) k = usedN p Q o (i + 1) := by
                    unfold mixed
                    rw [List.take_of_length_le (by rw [usedN_length]; omega), List.drop_of_length_le (by rw [usedN_length]; omega), List.append_nil]
                  rw [hmix] at hrow
                  have hupd := hUy.out.trans huz fun _ _ h => h
                  replace hm := Lib.hid hm
                  clear hmix hbz hkn hxz
                  go_wp2_with fail
                  go_roundw
                  case rel => exact ⟨i + 1, by go_num, by omega, by rw [hsn.out, ← hh.out, hm0.out], hrow, hupd⟩
                  case measure => simp [intOf]; omega
      · have hq : qual p o[i] = false := by rw [hse]; unfold qual; simp [hbg]
        have hsk1 := usedN_skip (Q := Q) hil hq
        have hsk2 := seenN_skip (d := d) hil hq
        have hbg' : begins s p = false := by simpa using hbg
        rw [hbg'] at cT
        replace hse := Lib.hid hse
        go_wp2_with fail
        refine (cT.out _).mono ?_
        rintro e w6 ⟨rfl, hu6⟩
        have hus6 := hu6.heap hus fun h => h
        have hux6 := hux.trans hu6 fun _ _ h => h.elim
        clear hu6 hus hux hx
        simp only []
        go_wp2_with fail
        go_roundw
        case rel => exact ⟨i + 1, by go_num, by omega, by rw [hsk2], by rw [hsk1]; exact hus6, hux6⟩
        case measure => simp [intOf]; omega
    · obtain rfl : i = on := by omega
      have hin' : ((i : Int) < (i : Int)) = False := eq_false (by omega)
      have hfull : usedN p Q o i = Q.map fun q => o.countP fun s => qual p s && begins s q := by
        unfold usedN; rw [List.take_of_length_le (by omega)]
      have hpos : Hid (∀ k (h : k < Q.length), ∃ f : Nat, (usedN p Q o i)[k]? = some f ∧ 0 < f ∧ f ≤ 50) := Lib.hid (fun k h => by
        obtain ⟨⟨s, hs, h1, h2, h3⟩, -⟩ := F2.out _ (List.getElem_mem h)
        refine ⟨o.countP fun s => qual p s && begins s Q[k], by rw [hfull]; simp [h], ?_, Nat.le_trans List.countP_le_length ho50⟩
        exact List.countP_pos_iff.2 ⟨s, hs, by rw [qual_at h1 h2, h3]; rfl⟩)
      have hsN : seenN p d o i = nA := by rw [← hnA, ← F4.out, hon]
      rw [hsN]
      have hb8 := hux.heap hb4.out (by omega)
      have hTQ8 := Lib.hid (hQQ4.out.upd hux hQz.out)
      have hUx := Lib.hid (hU4.out.trans hux fun j hj e => by omega)
      replace hus := Lib.hid hus
      replace hb8 := Lib.hid hb8
      clear hfull hsN hin hux F1 F4
      go_wp2_with fail
      go_loopw [16] (fun kv wy => ∃ k : Nat, kv = .int .i64 (k : Int) ∧ k ≤ pA ∧ Upd Non wx wy) (fun kv _ => pA - (intOf kv).toNat)
      case atStart => exact ⟨0, rfl, by omega, Upd.refl _ _⟩
      case round =>
        obtain ⟨k, rfl, hk, huy⟩ := hrel
        have hk0 : (0 : Int) ≤ (k : Int) := by omega
        have hby := huy.heap hb8.out fun h => h
        have b0 := (cells_of hby).1 0
        have b1 := (cells_of hby).1 1
        have b3 := (cells_of hby).1 3
        by_cases hkn : k < pA
        · have hkn' : (k : Int) < (pA : Int) := by omega
          have hkQ : k < Q.length := by omega
          obtain ⟨_, _, e, hat⟩ := txts_at (hTQ8.out.non huy)
          rw [hpA] at e
          injection e with e1 e2 e3
          subst e1
          clear e2 e3
          obtain ⟨g5, o5, rfl, hy⟩ := hat k hkQ
          obtain ⟨q, hqe⟩ : ∃ q, Q[k] = q := ⟨_, rfl⟩
          rw [hqe] at hy
          unfold txtV at hy
          obtain ⟨f, hf, hf0, hf50⟩ := hpos.out k hkQ
          obtain ⟨-, hlq, hbq, hdq⟩ := F2.out q (hqe ▸ List.getElem_mem hkQ)
          have hcell := ((cells_of (huy.heap hus.out fun h => h)).1 k).trans (nc_get hf)
          have z1 : ((f : Int) == 0) = false := by simp; omega
          have z2 : (f = 0) = False := eq_false (by omega)
          have z3 : ((f : Int) = 0) = False := eq_false (by omega)
          have z4 : ((q.length : Int) ≤ (p.length : Int)) = False := eq_false (by omega)
          have z5 : (q.length ≤ p.length) = False := eq_false (by omega)
          have hql : q.length ≤ 9223372036854775807 := by
            have hq2 : q ∈ Q := hqe ▸ List.getElem_mem hkQ
            obtain ⟨⟨s, hs, -, -, h3⟩, -⟩ := F2.out q hq2
            have h1 := (of_decide_eq_true h3).1
            have h2 := hso.out s hs
            omega
          have hsub := run_subFrom (P := Try.prog) 9 Try.underlying9 q ((q.length : Int) - 1) (q.length - 1) (by omega) (by omega)
          rw [hdq] at hsub
          have hw1 := Lib.hid (IntWalk.i64_in ((q.length : Int) - 1) ⟨by omega, by omega⟩)
          have cU := Lib.hid (fun w => lStarts q p w)
          rw [hbq] at cU
          unfold txtV at cU
          replace hqe := Lib.hid hqe
          replace hdq := Lib.hid hdq
          replace hf := Lib.hid hf
          clear hat hbq hlq
          replace hw1 := hw1.out
          go_wp2_with fail
          refine (cU.out _).mono ?_
          rintro e w8 ⟨rfl, hu8⟩
          have huy8 := huy.trans hu8 fun _ _ h => h
          clear hu8 huy hy hcell hby b0 b1 b3
          simp only []
          go_wp2_with fail
          clear hw1
          go_roundw
          case rel => exact ⟨k + 1, by go_num, by omega, huy8⟩
          case measure => simp [intOf]; omega
        · obtain rfl : k = pA := by omega
          have hkn' : ((k : Int) < (k : Int)) = False := eq_false (by omega)
          have hUU := Lib.hid ((hu1.out.trans hUx.out fun _ _ h => h).trans huy fun _ _ h => h)
          have y1 : ((nA : Int) == (nA : Int)) = true := by simp
          by_cases hd0 : d = []
          · have hQ0 : k = 0 := by rw [← hpA, F5.out hd0]; rfl
            subst hd0
            subst hQ0
            clear hby huy hkn
            go_wp2_with fail
            refine (lives20 _).mono ?_
            rintro e w8 ⟨rfl, u8⟩
            have hU8 := hUU.out.trans u8 fun _ _ h => h
            simp only []
            go_wp2_with fail
            go_ret
            exact ⟨rfl, hU8⟩
          · have f1 : ([] = d) = False := eq_false (fun e => hd0 e.symm)
            have f2 : ([] == d) = false := by simp; exact fun e => hd0 e
            have f3 : (d = []) = False := eq_false hd0
            have f4 : (d == []) = false := by simp [hd0]
            replace hd0 := Lib.hid hd0
            clear hby huy hkn
            go_wp2_with fail
            refine (lives20 _).mono ?_
            rintro e w8 ⟨rfl, u8⟩
            have hU8 := hUU.out.trans u8 fun _ _ h => h
            simp only []
            go_wp2_with fail
            go_ret
            exact ⟨rfl, hU8⟩
theorem lListingEach (nv : Value) (l : List Str) (p d : Str) (w : World) (hT : Txts w nv l) (hs : ∀ s ∈ l, s.length ≤ 140737488355328) : Calls Try.prog 5 #[nv, txtV p, txtV d] w (Ret (.bool true) w) := by
  by_cases hn : 50 < l.length
  · exact lEachMany nv l p d w hT hn
  · by_cases hc : p.length ≤ 32 ∧ d.length ≤ 1
    · exact lEachGood nv l p d w hT (by omega) hs hc.1 hc.2
    · exact lEachBad nv l p d w hT (by omega) hs hc
end Go.Proofs.Ytphdclafeijpnaa
