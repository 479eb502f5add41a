/- What is read, in plain Lean: small, few parts; the whole request. -/
import Derived.Test.YtogekobpjjmnjaaGreatMWrS
import Derived.Test.YtogekobpjjmnjaaGreatMWrA
import Derived.Deep.LoopGhost
namespace Go.Proofs.YtogekobpjjmnjaaGreat
set_option maxRecDepth 100000
open Go.RowKit Go.Amb
set_option linter.unusedVariables false
theorem rdRest_len (s : List UInt8) (a : Nat) (e : Int) (n : Nat) : (rdRest s a e n).2.2.length ≤ n := by
  unfold rdRest
  split
  · exact Nat.zero_le _
  · split
    · split
      · show ((s.drop a).take n).length ≤ n
        rw [List.length_take]; omega
      · exact Nat.zero_le _
    · exact Nat.zero_le _
theorem rdStr_len (s : List UInt8) (a : Nat) (e : Int) (m : Nat) (hm : m ≤ 2) : (rdStr s a e m).2.2.length ≤ 65535 := by
  obtain ⟨z, hz, hz2⟩ := rdNum_nat s a e m (by omega)
  unfold rdStr
  rw [hz, Int.toNat_natCast]
  have := rdRest_len s (rdNum s a e m).1 (rdNum s a e m).2.1 z
  have h2 : 256 ^ m ≤ 65536 := by
    have : m = 0 ∨ m = 1 ∨ m = 2 := by omega
    rcases this with rfl | rfl | rfl <;> decide
  omega
theorem rdParts_len (s : List UInt8) : ∀ (n a : Nat) (e : Int) (ps : List Int), (rdParts s n a e ps).2.2.length ≤ ps.length + n
  | 0, a, e, ps => Nat.le_refl _
  | n + 1, a, e, ps => by
    unfold rdParts
    split
    · have := rdParts_len s n (rdNum s a 0 1).1 (rdNum s a 0 1).2.1 (ps ++ [(rdNum s a 0 1).2.2])
      rw [List.length_append, List.length_singleton] at this
      omega
    · have := rdParts_len s n a e ps
      omega
theorem hit3 {Q : Rq × Nat × Int → Prop} (p : Prop) [Decidable p] {a b : Rq × Nat × Int} (ha : Q a) (hb : Q b) : Q (if p then a else b) := by split <;> assumption
theorem getQ_kind (s : List UInt8) (c : UInt8) (x : Rq × Nat × Int) : (getQ s c x).1.kind = x.1.kind := by
  unfold getQ
  repeat' (first | rfl | refine hit3 (Q := fun y => y.1.kind = x.1.kind) _ ?_ ?_)
theorem getQ_parts (s : List UInt8) (c : UInt8) (x : Rq × Nat × Int) : (getQ s c x).1.parts.length ≤ x.1.parts.length + 256 := by
  obtain ⟨z, hz, hz2⟩ := rdNum_nat s x.2.1 x.2.2 1 (by omega)
  have h1 := rdParts_len s z (rdNum s x.2.1 x.2.2 1).1 (rdNum s x.2.1 x.2.2 1).2.1 x.1.parts
  unfold getQ
  rw [hz, Int.toNat_natCast]
  repeat' (first | exact Nat.le_add_right _ _ | (refine Nat.le_trans h1 ?_; omega) | refine hit3 (Q := fun y => y.1.parts.length ≤ x.1.parts.length + 256) _ ?_ ?_)
theorem getQ_small (s : List UInt8) (c : UInt8) (x : Rq × Nat × Int) (h : smallQ x.1) : smallQ (getQ s c x).1 := by
  have m : ∀ m, m ≤ 2 → (rdStr s x.2.1 x.2.2 m).2.2.length ≤ maxLen := fun m hm => by have := rdStr_len s x.2.1 x.2.2 m hm; unfold maxLen; omega
  have m1 := m 1 (by omega)
  have m2 := m 2 (by omega)
  obtain ⟨h1, h2, h3, h4, h5, h6⟩ := h
  unfold getQ
  repeat' (first | exact ⟨h1, h2, h3, h4, h5, h6⟩ | exact ⟨m1, h2, h3, h4, h5, h6⟩ | exact ⟨h1, m1, h3, h4, h5, h6⟩ | exact ⟨h1, h2, m1, h4, h5, h6⟩ | exact ⟨h1, h2, h3, m1, h5, h6⟩ | exact ⟨h1, h2, h3, h4, m1, h6⟩ | exact ⟨h1, h2, h3, h4, h5, m2⟩ | refine hit3 (Q := fun y => smallQ y.1) _ ?_ ?_)
/-- All fields, one behind the other. -/
def getAll (s : List UInt8) (l : List UInt8) (x : Rq × Nat × Int) : Rq × Nat × Int := l.foldl (fun x c => getQ s c x) x
theorem getAll_kind (s : List UInt8) : ∀ (l : List UInt8) (x : Rq × Nat × Int), (getAll s l x).1.kind = x.1.kind
  | [], x => rfl
  | c :: l, x => (getAll_kind s l (getQ s c x)).trans (getQ_kind s c x)
theorem getAll_parts (s : List UInt8) : ∀ (l : List UInt8) (x : Rq × Nat × Int), (getAll s l x).1.parts.length ≤ x.1.parts.length + 256 * l.length
  | [], x => Nat.le_add_right _ _
  | c :: l, x => by
    have h1 := getAll_parts s l (getQ s c x)
    have h2 := getQ_parts s c x
    rw [List.length_cons]
    show (getAll s l (getQ s c x)).1.parts.length ≤ _
    omega
theorem getAll_small (s : List UInt8) : ∀ (l : List UInt8) (x : Rq × Nat × Int), smallQ x.1 → smallQ (getAll s l x).1
  | [], x, h => h
  | c :: l, x, h => getAll_small s l (getQ s c x) (getQ_small s c x h)
/-- Before the letters: the kind alone. -/
def kindQ (s : List UInt8) : Rq × Nat × Int := ({ zeroQ with kind := (rdNum s 0 0 1).2.2 }, (rdNum s 0 0 1).1, (rdNum s 0 0 1).2.1)
def lastQ (s : List UInt8) : Rq × Nat × Int := getAll s (lets (rdNum s 0 0 1).2.2) (kindQ s)
def readQ (s : List UInt8) : Option Rq := if rdEnd s (lastQ s).2.1 (lastQ s).2.2 = 0 ∧ rightQ (lastQ s).1 then some (lastQ s).1 else none
end Go.Proofs.YtogekobpjjmnjaaGreat

namespace Go.Proofs.YtogekobpjjmnjaaGreat
open Go.RowKit Go.Amb
set_option linter.unusedVariables false
set_option linter.unusedSimpArgs false
set_option maxRecDepth 100000
attribute [local go_sem ↓] Go.wp_at_zero Go.wp_at_succ
theorem results_row_tmp {P : Program} {fn : Func} {p u : Tmp} {ty : TypeId} (h : fn.results = #[.cell p ty, .tmp u]) (tmps : Array Value) (w : World) (g : Nat) (t : TypeId) (cs : Array Value) (fr : Nat × Nat) (d : TypeDesc)
    (hp : tmps.getD p undef = .pointer (some ⟨g, 0, none⟩)) (hg : w.heap[g]? = some (.cells cs t fr))
    (hu : P.underlying ty = some d) (hd : (match d with | .struct _ | .array _ _ => true | _ => false) = true) (hi : (P.info? ty).map (·.size) = some cs.size) :
    (results fn tmps).run P w = .ok (.tuple #[.agg cs, tmps.getD u undef]) w := by
  rw [results_cell_tmp h, hp]
  simp [asAddr, run_loadVar_row w g t ty cs fr d hg hu hd hi]
def codeQ (o : Option Rq) : Int := if o.isSome then 0 else 4
/-- What Read tells: a request, its parts in new blocks. -/
def ReadQ (s : List UInt8) (w : World) : Ending → World → Prop := fun en w' =>
  ∃ pv, en = .returned (.tuple #[rqV ((readQ s).getD zeroQ) pv, .int .i64 (codeQ (readQ s))]) ∧ Ints w' pv ((readQ s).getD zeroQ).parts ∧ (∀ k, At pv k → w.heap.size ≤ k ∧ k < w'.heap.size) ∧ Upd Non w w'
set_option maxHeartbeats 4000000 in
theorem wRead (v : Value) (s : List UInt8) (w : World) (hB : Bytes w v s) (hs : s.length ≤ 140737488355328) : Calls Tryz.prog 38 #[v] w (ReadQ s w) := by
  have hF := Lib.hid (fun w => wFields (rdNum s 0 0 1).2.2 w)
  have hlast : Hid (lastQ s = getAll s (lets (rdNum s 0 0 1).2.2) (kindQ s)) := Lib.hid rfl
  have c1 := Lib.hid (fun L r w h => fU8 (L := L) r s 0 0 w h)
  unfold kindQ at hlast
  generalize rdNum s 0 0 1 = x at *
  obtain ⟨a0, e0, k0⟩ := x
  dsimp only at hF c1 hlast
  have hsz : Hid ((Tryz.prog.info? 86).map (·.size) = some (rqC { zeroQ with kind := k0 } (.slice none 0 0)).size) := Lib.hid (by kernel_rfl)
  obtain ⟨va, vc, rfl⟩ := bytes_form hB
  have hN := Lib.hid (fun w' (hu : Upd Non w w') => fNewReader _ s w' (hB.upd hu fun _ _ h => h) hs)
  have hz0 := heap_alloc_new w (.cells (rqC zeroQ (.slice none 0 0)) 86)
  have hu0 : Upd Non w (w.alloc (.cells (rqC zeroQ (.slice none 0 0)) 86)) := Upd.alloc _ _ _
  have hsz0 : (w.alloc (.cells (rqC zeroQ (.slice none 0 0)) 86)).heap.size = w.heap.size + 1 := by simp
  obtain ⟨PR, hPR⟩ : ∃ PR, ReadQ s w = PR := ⟨_, rfl⟩
  rw [hPR]
  replace hPR := Lib.hid hPR
  go_enter Tryz.func38, Tryz.ntmps38
  go_wp2_with fail
  refine (hN.out _ hu0).mono ?_
  rintro en w1 ⟨r, rfl, hR1, hu1, hr1⟩
  have hz1 := hu1.heap hz0 fun h => h
  have hU1 := hu0.trans hu1 fun _ _ h => h
  have hlr := hR1.lt
  clear hz0 hu0 hu1 hN hB
  have y1 := (cells_of (heap_alloc_new w1 (.cells #[.pointer (some ⟨r, 0, none⟩)] 50))).1 0
  have hRa := hR1.non (Upd.alloc _ w1 (.cells #[.pointer (some ⟨r, 0, none⟩)] 50))
  have hza := (Upd.alloc Non w1 (.cells #[.pointer (some ⟨r, 0, none⟩)] 50)).heap hz1 fun h => h
  have hUa := hU1.then_alloc (.cells #[.pointer (some ⟨r, 0, none⟩)] 50)
  clear hR1 hz1 hU1
  go_wp2_with fail
  refine (c1.out _ _ _ hRa).mono ?_
  rintro en w2 ⟨rfl, hR2, hu2⟩
  have y2 : w2.cell? ⟨w1.heap.size, 0, none⟩ = some (.pointer (some ⟨r, 0, none⟩)) := hu2.cell y1 (by dsimp only; omega)
  have hz2 := hu2.heap hza (by omega)
  have hU2 : Upd Non w w2 := hUa.trans hu2 fun j hj h => by omega
  have hN2 := World.block_lt_of_cell? _ _ y2
  dsimp only at hN2
  have hbx := heap_alloc_new w2 (.cells (rqC zeroQ (.slice none 0 0)) 86)
  clear hu2 hRa hza hUa y1
  unfold rqC zeroQ at hbx hz2 hsz
  go_wp2_with ((with_reducible (show wpList _ _ _ (⟨_, Op.store _ _ _, _, _, _, _⟩ :: _) _ _)); refine storeB_list rfl 86 _ _ rfl w2.heap.size #[.int .i64 k0, .int .i64 0, .string ⟨#[]⟩, .string ⟨#[]⟩, .string ⟨#[]⟩, .string ⟨#[]⟩, .string ⟨#[]⟩, .string ⟨#[]⟩, .int .i64 0, .int .i64 0, .int .i64 0, .int .i64 0, .int .i64 0, .slice none 0 0] _ _ rfl rfl hbx rfl hsz.out (by simp [Value.oneCell']) ?_)
  intro w3 hb3 hu3
  have hsz3 := hu3.size
  rw [World.size_alloc] at hsz3
  have y3 := hu3.cell ((Upd.alloc Non w2 _).cell y2 fun h => h) (by dsimp only; omega)
  have hz3 := hu3.heap ((Upd.alloc Non w2 _).heap hz2 fun h => h) (by omega)
  have hR3 := (hR2.non (Upd.alloc _ w2 _)).upd hu3 fun j _ hj => .inr (by omega)
  have hU3 := (hU2.then_alloc _).trans hu3 fun j hj h => by omega
  have x3 : w3.cell? ⟨w2.heap.size, 0, none⟩ = some (.int .i64 k0) := (cells_of hb3).1 0
  clear hu3 y2 hz2 hR2 hU2 hbx
  go_wp2_with fail
  refine (hF.out _).mono ?_
  rintro en w4 ⟨rfl, hu4⟩
  have y4 := hu4.cell y3 fun h => h
  have hz4 := hu4.heap hz3 fun h => h
  have hR4 := hR3.non hu4
  have hU4 := hU3.trans hu4 fun _ _ h => h
  have hb4 := hu4.heap hb3 fun h => h
  have hsz4 := hu4.size
  clear hu4 y3 hz3 hR3 hU3 hb3 x3
  have hasc := Lib.hid (lets_ascii k0)
  have hin := Lib.hid (lets_in k0)
  have hsh := lets_short k0
  generalize lets k0 = l at *
  rw [hsz0] at hr1 hR4
  obtain ⟨q0, hq0⟩ : ∃ q0 : Rq × Nat × Int, q0 = ({ zeroQ with kind := k0 }, a0, e0) := ⟨_, rfl⟩
  have hlast2 : Hid (lastQ s = getAll s l q0) := Lib.hid (by rw [hq0]; exact hlast.out)
  have hp0 : q0.1.parts = [] := by rw [hq0]; rfl
  have hs0 : smallQ q0.1 := by rw [hq0]; unfold smallQ zeroQ maxLen; refine ⟨?_, ?_, ?_, ?_, ?_, ?_⟩ <;> simp
  have hb4' : w4.heap[w2.heap.size]? = some (.cells (rqC q0.1 (.slice none 0 0)) 86 (0, 0)) := by rw [hq0]; exact hb4
  have hR4' : RdAt w4 r (w.heap.size + 1) s q0.2.1 q0.2.2 := by rw [hq0]; exact hR4
  clear hlast hb4 hR4 hq0 hF c1 hsz0
  replace hsz := Lib.hid trivial
  go_wp2_with fail
  go_loopg [] l.length (fun g wr => ∃ (i : Nat) (pv : Value) (x : Rq × Nat × Int), i + g = l.length ∧ Hid (getAll s (l.take i) q0 = x) ∧ wr.heap[w4.heap.size]? = some (.stringIter ⟨l.toArray⟩ i) ∧ wr.heap[w2.heap.size]? = some (.cells (rqC x.1 pv) 86 (0, 0)) ∧ wr.ownsRow (w2.heap.size + 1) 3 1 pv x.1.parts.length (x.1.parts.map (.int .i64)) ∧ (∀ k, At pv k → k ≠ w4.heap.size) ∧ RdAt wr r (w.heap.size + 1) s x.2.1 x.2.2 ∧ wr.cell? ⟨w1.heap.size, 0, none⟩ = some (.pointer (some ⟨r, 0, none⟩)) ∧ wr.heap[w.heap.size]? = some (.cells #[.int .i64 0, .int .i64 0, .string ⟨#[]⟩, .string ⟨#[]⟩, .string ⟨#[]⟩, .string ⟨#[]⟩, .string ⟨#[]⟩, .string ⟨#[]⟩, .int .i64 0, .int .i64 0, .int .i64 0, .int .i64 0, .int .i64 0, .slice none 0 0] 86 (0, 0)) ∧ Upd Non w wr)
  case atStart =>
    have hit := Upd.alloc Non w4 (.stringIter ⟨l.toArray⟩ 0)
    exact ⟨0, .slice none 0 0, q0, by omega, Lib.hid rfl, World.iter_heap _ _ _, hit.heap hb4' fun h => h, by rw [hp0]; exact World.ownsRow_nil _ _ _ _, fun k hk => by simp [At, Value.ownBlock] at hk, hR4'.non hit, hit.cell y4 fun h => h, hit.heap hz4 fun h => h, hU4.trans hit fun _ _ h => h⟩
  case round =>
    clear hb4' hR4' y4 hz4 hU4
    obtain ⟨i, pv, x, hi, hx, hit, hb, ho, hnv, hR, y, hz, hU⟩ := hrel
    by_cases hlt : i < l.length
    · obtain ⟨g, rfl⟩ : ∃ g, gk = g + 1 := ⟨gk - 1, by omega⟩
      have hnx := next_letter hit hlt (hasc.out _ (List.getElem_mem hlt))
      have hui : Upd (fun j => j = w4.heap.size) wr (wr.iterAt w4.heap.size ⟨l.toArray⟩ (i + 1)) := upd_iterAt _ _
      have hit2 := Lib.iterAt_heap wr w4.heap.size ⟨l.toArray⟩ i (i + 1) hit
      have hb2 := hui.heap hb (by omega)
      have ho2 := hui.owns ho fun k hk e => hnv k hk e
      have hR2 := hR.upd hui fun j _ hj => .inr (by omega)
      have y2 := hui.cell y (by dsimp only; omega)
      have hz2 := hui.heap hz (by omega)
      have hU2 := hU.trans hui fun j hj e => by omega
      have htk : getAll s (l.take (i + 1)) q0 = getQ s l[i] x := by rw [← hx.out]; exact take_fold _ q0 l i hlt
      have hpl : x.1.parts.length ≤ 100000 := by
        have := getAll_parts s (l.take i) q0
        rw [hx.out, hp0, List.length_take] at this
        simp at this
        omega
      have hlW := heap_lt hit2
      obtain ⟨W, hW⟩ : ∃ W, wr.iterAt w4.heap.size ⟨l.toArray⟩ (i + 1) = W := ⟨_, rfl⟩
      rw [hW] at hnx hui hit2 hb2 ho2 hR2 y2 hz2 hU2 hlW
      have cG := Lib.hid (wGet r w2.heap.size (w2.heap.size + 1) s x.2.1 x.2.2 x.1 pv l[i] (hin.out _ (List.getElem_mem hlt)) W hR2 hb2 ho2 (by omega) (by omega) (by omega) hpl)
      have hxx : getQ s l[i] (x.1, x.2.1, x.2.2) = getQ s l[i] x := rfl
      rw [hxx, ← htk] at cG
      generalize l[i] = ch at *
      unfold rdV1 at cG
      clear hW hb ho hR y hz hU hit hx hui htk hxx
      go_wp2_with fail
      refine cG.out.mono ?_
      rintro en w5 ⟨rfl, pv5, hb5, ho5, hR5, hu5, hf5⟩
      have hnv2 : ∀ k, At pv k → w2.heap.size + 1 ≤ k := fun k hk => own_ge ho2 hk
      go_wp2_with fail
      go_roundg g
      case measure => omega
      case rel => exact ⟨i + 1, pv5, _, by omega, Lib.hid rfl, hu5.heap hit2 (fun h => by rcases h with h | h | h; omega; omega; exact hnv _ h rfl), hb5, ho5, fun k hk => (hf5 k hk).elim (hnv k) fun h => by omega, hR5, hu5.cell y2 (fun h => by dsimp only at h; rcases h with h | h | h; omega; omega; have := hnv2 _ h; omega), hu5.heap hz2 (fun h => by rcases h with h | h | h; omega; omega; have := hnv2 _ h; omega), hU2.trans hu5 fun j hj h => by rcases h with h | h | h; omega; omega; have := hnv2 _ h; omega⟩
    · obtain rfl : i = l.length := by omega
      have hnx := next_none hit
      rw [List.take_length] at hx
      have hlx : lastQ s = x := hlast2.out.trans hx.out
      have hsm : smallQ x.1 := by rw [← hx.out]; exact getAll_small s l q0 hs0
      have hread : Hid (readQ s = if rdEnd s x.2.1 x.2.2 = 0 ∧ rightQ x.1 then some x.1 else none) := Lib.hid (by unfold readQ; rw [hlx])
      have hno : Hid (readQ s = none → ∀ w', Upd Non w w' → PR (.returned (.tuple #[.agg #[.int .i64 0, .int .i64 0, .string ⟨#[]⟩, .string ⟨#[]⟩, .string ⟨#[]⟩, .string ⟨#[]⟩, .string ⟨#[]⟩, .string ⟨#[]⟩, .int .i64 0, .int .i64 0, .int .i64 0, .int .i64 0, .int .i64 0, .slice none 0 0], .int .i64 4])) w') := Lib.hid (fun h w' hu => by
        rw [← hPR.out]
        refine ⟨.slice none 0 0, ?_, ?_, fun k hk => by simp [At, Value.ownBlock] at hk, hu⟩
        · rw [h]; rfl
        · rw [h]; exact has_of_owns (World.ownsRow_nil _ (w2.heap.size + 1) 3 1))
      have hyes : Hid (readQ s = some x.1 → ∀ w', Ints w' pv x.1.parts → Upd (fun k => k = w.heap.size) wr w' → PR (.returned (.tuple #[rqV x.1 pv, .int .i64 0])) w') := Lib.hid (fun h w' hI hu => by
        rw [← hPR.out]
        refine ⟨pv, ?_, ?_, fun k hk => ⟨?_, ?_⟩, hU.trans hu fun j hj h => by omega⟩
        · rw [h]; rfl
        · rw [h]; exact hI
        · have := own_ge ho hk; omega
        · have := own_lt ho hk; have := hu.size; omega)
      have hI : Ints wr pv x.1.parts := has_of_owns ho
      have cE := Lib.hid (fEnd r s x.2.1 x.2.2 wr hR)
      have cC := Lib.hid (fun w' (hu : Upd Non wr w') => wCheck x.1 pv w' (hI.non hu) hsm)
      have hxs := cells14 (fun j v e => ((cells_of hb).1 j).trans e)
      have hnw : ∀ k, At pv k → k ≠ w.heap.size := fun k hk => by have := own_ge ho hk; omega
      clear hlast2 hx hlx hPR hsm hin hasc hp0 hs0 hit hR ho hnv
      obtain ⟨q, a, e⟩ := x
      dsimp only at *
      have hszz : Hid ((Tryz.prog.info? 86).map (·.size) = some (#[.int .i64 0, .int .i64 0, .string ⟨#[]⟩, .string ⟨#[]⟩, .string ⟨#[]⟩, .string ⟨#[]⟩, .string ⟨#[]⟩, .string ⟨#[]⟩, .int .i64 0, .int .i64 0, .int .i64 0, .int .i64 0, .int .i64 0, .slice none 0 0] : Array Value).size) := Lib.hid (by kernel_rfl)
      obtain ⟨pa, pc, rfl, -⟩ := has1 hI
      have hszq : Hid ((Tryz.prog.info? 86).map (·.size) = some (#[.int .i64 q.kind, .int .i64 q.session, .string ⟨q.bucket.toArray⟩, .string ⟨q.object.toArray⟩, .string ⟨q.version.toArray⟩, .string ⟨q.pre.toArray⟩, .string ⟨q.delim.toArray⟩, .string ⟨q.body.toArray⟩, .int .i64 q.ck, .int .i64 q.re, .int .i64 q.im, .int .i64 q.id, .int .i64 q.n, .slice pa q.parts.length pc] : Array Value).size) := Lib.hid (by kernel_rfl)
      have hrw : w.heap.size < wr.heap.size := heap_lt hz
      by_cases h1 : rdEnd s a e = 0
      · rw [h1] at cE
        by_cases h2 : rightQ q
        · have hr := hread.out
          rw [if_pos ⟨h1, h2⟩] at hr
          replace hyes := Lib.hid (hyes.out hr)
          have hck : ckQ q = 0 := if_pos h2
          rw [hck] at cC
          clear hno hread hr hck
          go_wp2_with fail
          refine cE.out.mono ?_
          rintro en w5 ⟨rfl, n5, rfl⟩
          have hu5 := Upd.drewN Non wr n5
          have hz5 := hu5.heap hz fun h => h
          have hb5 := hu5.heap hb fun h => h
          obtain ⟨z0, z1, z2, z3, z4, z5, z6, z7, z8, z9, z10, z11, z12, z13⟩ := cells14 (fun j v e => ((cells_of hb5).1 j).trans e)
          unfold rqV at cC hyes
          go_wp2_with fail
          refine (cC.out _ hu5).mono ?_
          rintro en w6 ⟨rfl, hu6⟩
          have hz6 := hu6.heap hz5 fun h => h
          have hb6 := hu6.heap hb5 fun h => h
          have hu7 := hu5.trans hu6 fun _ _ h => h
          clear z0 z1 z2 z3 z4 z5 z6 z7 z8 z9 z10 z11 z12 z13 hz5 hb5 hu5 hu6 hb hz y hxs cC cE
          obtain ⟨z0, z1, z2, z3, z4, z5, z6, z7, z8, z9, z10, z11, z12, z13⟩ := cells14 (fun j v e => ((cells_of hb6).1 j).trans e)
          go_wp2_with ((with_reducible (show wpList _ _ _ (⟨_, Op.store _ _ _, _, _, _, _⟩ :: _) _ _)); refine storeB_list rfl 86 _ _ rfl w.heap.size #[.int .i64 q.kind, .int .i64 q.session, .string ⟨q.bucket.toArray⟩, .string ⟨q.object.toArray⟩, .string ⟨q.version.toArray⟩, .string ⟨q.pre.toArray⟩, .string ⟨q.delim.toArray⟩, .string ⟨q.body.toArray⟩, .int .i64 q.ck, .int .i64 q.re, .int .i64 q.im, .int .i64 q.id, .int .i64 q.n, .slice pa q.parts.length pc] _ _ rfl rfl hz6 rfl hszq.out (by simp [Value.oneCell']) ?_)
          intro w8 hb8 hu8
          have hg := hyes.out w8 ((hI.non hu7).upd hu8 fun k hk h => by have := hnw k hk; omega) ((hu7.mono fun _ _ h => h.elim).trans hu8 fun _ _ h => h)
          clear z0 z1 z2 z3 z4 z5 z6 z7 z8 z9 z10 z11 z12 z13 hz6 hb6 hu8
          go_wp2_with fail
          (try simp only [Exit.inBlock, Exit.then])
          refine bodyPost_ret (results_row_tmp rfl _ _ w.heap.size _ _ _ _ rfl hb8 Tryz.underlying86 rfl hszq.out) rfl ?_
          exact hg
        · have hr := hread.out
          rw [if_neg (fun h => h2 h.2)] at hr
          replace hno := Lib.hid (hno.out hr)
          have hck : ckQ q = 4 := if_neg h2
          rw [hck] at cC
          clear hyes hread hr hck
          go_wp2_with fail
          refine cE.out.mono ?_
          rintro en w5 ⟨rfl, n5, rfl⟩
          have hu5 := Upd.drewN Non wr n5
          have hz5 := hu5.heap hz fun h => h
          have hb5 := hu5.heap hb fun h => h
          obtain ⟨z0, z1, z2, z3, z4, z5, z6, z7, z8, z9, z10, z11, z12, z13⟩ := cells14 (fun j v e => ((cells_of hb5).1 j).trans e)
          unfold rqV at cC
          go_wp2_with fail
          refine (cC.out _ hu5).mono ?_
          rintro en w6 ⟨rfl, hu6⟩
          have hz6 := hu6.heap hz5 fun h => h
          have hU6 := (hU.trans hu5 fun _ _ h => h).trans hu6 fun _ _ h => h
          clear z0 z1 z2 z3 z4 z5 z6 z7 z8 z9 z10 z11 z12 z13 hz5 hb5 hu5 hu6 hb hz y hxs cC cE
          go_wp2_with ((with_reducible (show wpList _ _ _ (⟨_, Op.store _ _ _, _, _, _, _⟩ :: _) _ _)); refine storeB_list rfl 86 _ _ rfl w.heap.size #[.int .i64 0, .int .i64 0, .string ⟨#[]⟩, .string ⟨#[]⟩, .string ⟨#[]⟩, .string ⟨#[]⟩, .string ⟨#[]⟩, .string ⟨#[]⟩, .int .i64 0, .int .i64 0, .int .i64 0, .int .i64 0, .int .i64 0, .slice none 0 0] _ _ rfl rfl hz6 rfl hszz.out (by simp [Value.oneCell']) ?_)
          intro w8 hb8 hu8
          have hg := hno.out w8 (hU6.trans hu8 fun j hj h => by omega)
          clear hz6 hu8 hU6
          go_wp2_with fail
          (try simp only [Exit.inBlock, Exit.then])
          refine bodyPost_ret (results_row_tmp rfl _ _ w.heap.size _ _ _ _ rfl hb8 Tryz.underlying86 rfl hszz.out) rfl ?_
          exact hg
      · have hr := hread.out
        rw [if_neg (fun h => h1 h.1)] at hr
        replace hno := Lib.hid (hno.out hr)
        have hne : (rdEnd s a e != 0) = true := by simp [h1]
        generalize rdEnd s a e = xe at *
        clear hyes hread hr cC hxs hb
        go_wp2_with fail
        refine cE.out.mono ?_
        rintro en w5 ⟨rfl, n5, rfl⟩
        have hz5 := (Upd.drewN Non wr n5).heap hz fun h => h
        have hU5 := hU.then_drewN n5
        go_wp2_with ((with_reducible (show wpList _ _ _ (⟨_, Op.store _ _ _, _, _, _, _⟩ :: _) _ _)); refine storeB_list rfl 86 _ _ rfl w.heap.size #[.int .i64 0, .int .i64 0, .string ⟨#[]⟩, .string ⟨#[]⟩, .string ⟨#[]⟩, .string ⟨#[]⟩, .string ⟨#[]⟩, .string ⟨#[]⟩, .int .i64 0, .int .i64 0, .int .i64 0, .int .i64 0, .int .i64 0, .slice none 0 0] _ _ rfl rfl hz5 rfl hszz.out (by simp [Value.oneCell']) ?_)
        intro w8 hb8 hu8
        have hg := hno.out w8 (hU5.trans hu8 fun j hj h => by omega)
        clear hz5 hu8 hU5
        go_wp2_with fail
        (try simp only [Exit.inBlock, Exit.then])
        refine bodyPost_ret (results_row_tmp rfl _ _ w.heap.size _ _ _ _ rfl hb8 Tryz.underlying86 rfl hszz.out) rfl ?_
        exact hg
end Go.Proofs.YtogekobpjjmnjaaGreat
