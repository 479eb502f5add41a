/- listing.entries: the iterator. -/
import Derived.Test.YtphdclafeijpnaaLsB
import Derived.Test.YtphdclafeijpnaaTPlain
import Derived.Test.YtphdclafeijpnaaLsA
import Derived.Shelf.RegionOpen
import Derived.WalkKit
import Derived.Laws.StructEq
namespace Go.Proofs.Ytphdclafeijpnaa
open Go.RowKit Go.Amb Go.Shelf
set_option linter.unusedVariables false
set_option linter.unusedSimpArgs false
set_option maxRecDepth 100000
attribute [local go_sem] Oper.semAt_some
/-- What the iterator reads. -/
structure EntAt (w : World) (bn bp bd ba : Nat) (nv : Value) (l : List Str) (p d a : Str) : Prop where
  n : w.heap[bn]? = some (.cells #[nv] 22 (0, 0))
  p : w.heap[bp]? = some (.cells #[txtV p] 9 (0, 0))
  d : w.heap[bd]? = some (.cells #[txtV d] 9 (0, 0))
  a : w.heap[ba]? = some (.cells #[txtV a] 9 (0, 0))
  l : Txts w nv l
  lt : ∀ k, At nv k → k < w.heap.size
def EntK (bn bp bd ba : Nat) (nv : Value) : Nat → Prop := fun k => k = bn ∨ k = bp ∨ k = bd ∨ k = ba ∨ At nv k
theorem EntAt.stay {w w' : World} {bn bp bd ba : Nat} {nv : Value} {l : List Str} {p d a : Str} (h : EntAt w bn bp bd ba nv l p d a) (hs : Stay (EntK bn bp bd ba nv) w w') (hz : w.heap.size ≤ w'.heap.size) : EntAt w' bn bp bd ba nv l p d a := by
  refine ⟨(hs _ (.inl rfl)).trans h.n, (hs _ (.inr (.inl rfl))).trans h.p, (hs _ (.inr (.inr (.inl rfl)))).trans h.d, (hs _ (.inr (.inr (.inr (.inl rfl))))).trans h.a, ?_, fun k hk => Nat.lt_of_lt_of_le (h.lt k hk) hz⟩
  obtain ⟨h1, a, c, rfl, h2, h3, h4⟩ := h.l
  refine ⟨h1, a, c, rfl, h2, h3, h4.imp id fun ⟨g, off, e, hc⟩ => ⟨g, off, e, fun j u hj => ?_⟩⟩
  subst e
  exact (World.cell?_of_block (hs g (.inr (.inr (.inr (.inr rfl)))))).trans (hc j u hj)
theorem txts_at {w : World} {v : Value} {l : List Str} (h : Txts w v l) : ∃ a c, v = .slice a l.length c ∧ ∀ i (hi : i < l.length), ∃ g off, a = some ⟨g, off, none⟩ ∧ w.cell? ⟨g, off + i, none⟩ = some (txtV l[i]) := by
  obtain ⟨_, a, c, rfl, _, _, h4⟩ := h
  refine ⟨a, c, rfl, fun i hi => ?_⟩
  obtain ⟨g, off, rfl, hc⟩ := h4.resolve_left (by omega)
  exact ⟨g, off, rfl, hc i _ (by rw [List.getElem?_map, List.getElem?_eq_getElem hi]; rfl)⟩
theorem drop_cons {α : Type} {l : List α} {k : Nat} (h : k < l.length) : l.drop k = l[k] :: l.drop (k + 1) := List.drop_eq_getElem_cons h
theorem ents_skip {p d a : Str} {last : Ent} {l : List Str} {k : Nat} (h : k < l.length) (hs : begins l[k] p = false ∨ Op.bytesLess a (entOf l[k] p d).1 = false ∨ entOf l[k] p d = last) : entsFrom p d a last (l.drop k) = entsFrom p d a last (l.drop (k + 1)) := by
  rw [drop_cons h, entsFrom, if_pos hs]
theorem ents_take {p d a : Str} {last : Ent} {l : List Str} {k : Nat} (h : k < l.length) (hs : ¬ (begins l[k] p = false ∨ Op.bytesLess a (entOf l[k] p d).1 = false ∨ entOf l[k] p d = last)) : entsFrom p d a last (l.drop k) = entOf l[k] p d :: entsFrom p d a (entOf l[k] p d) (l.drop (k + 1)) := by
  rw [drop_cons h, entsFrom, if_neg hs]
theorem begins_le {s p : Str} (h : begins s p = true) : p.length ≤ s.length := (of_decide_eq_true h).1
theorem ent_eqGuard (op : BinOp) (x y : Operand) (xs ys : Array Value) (w : World) : (eqGuard op 47 x y (.agg xs) (.agg ys)).run Try.prog w = .ok () w := run_eqGuard_agg w op 47 x y xs ys (by kernel_rfl)
theorem ent_eql (s t : Str) (b c : Bool) (w : World) : (binOp .eql 47 (.agg #[.string ⟨s.toArray⟩, .bool b]) (.agg #[.string ⟨t.toArray⟩, .bool c])).run Try.prog w = .ok (.bool (decide ((s, b) = (t, c)))) w := by
  have hs : Program.stoodInHeld Try.prog 47 = false := by kernel_rfl
  rw [run_eql_struct, run_equalIn_agg w 9999 47 _ _ (by kernel_rfl) hs]
  simp only [Program.fieldsOf, Try.underlying47]
  simp [Op.eqFields, go_sem]
  by_cases h1 : s = t <;> by_cases h2 : b = c <;> simp [h1, h2]
abbrev encE (x : Ent) : Array Value := #[entV x]
set_option maxHeartbeats 4000000 in
theorem iter_ents {w0 : World} {bn bp bd ba : Nat} {nv : Value} {l : List Str} {p d a : Str} (h : EntAt w0 bn bp bd ba nv l p d a) (hd : d.length ≤ 1) (hn : l.length ≤ 1000000) (hs : ∀ s ∈ l, s.length ≤ 140737488355328) :
    IterN Try.prog 25 #[.pointer (some ⟨ba, 0, none⟩), .pointer (some ⟨bn, 0, none⟩), .pointer (some ⟨bp, 0, none⟩), .pointer (some ⟨bd, 0, none⟩)] encE (ents p d a l) (EntK bn bp bd ba nv) w0 := by
  intro y J Jx W hSt hZ hJu hY h0
  have hE := h.stay hSt hZ
  have hbl : ∀ k, EntK bn bp bd ba nv k → k < W.heap.size := by
    rintro k (rfl | rfl | rfl | rfl | hk)
    · exact heap_lt hE.n
    · exact heap_lt hE.p
    · exact heap_lt hE.d
    · exact heap_lt hE.a
    · exact hE.lt k hk
  obtain ⟨va, vc, rfl, -⟩ := txts_at hE.l
  obtain ⟨n, hnn⟩ : ∃ n, l.length = n := ⟨_, rfl⟩
  obtain ⟨a0, -⟩ := cells_of hE.a
  replace a0 := a0 0
  have n0 := (cells_of hE.n).1 0
  obtain ⟨b, hb⟩ : ∃ b, W.heap.size = b := ⟨_, rfl⟩
  rw [hnn] at n0
  have a0' : W.cell? ⟨ba, 0, none⟩ = some (.string ⟨a.toArray⟩) := a0
  have n0' : W.cell? ⟨bn, 0, none⟩ = some (.slice va n vc) := n0
  clear a0 n0
  obtain ⟨W1, hW1⟩ : ∃ W1, W1 = W.alloc (.cells #[.string ⟨a.toArray⟩, .bool false] 47) := ⟨_, rfl⟩
  have hu1 : Upd (fun k => k = b) W W1 := by rw [hW1]; exact Upd.alloc _ _ _
  have hb1 : W1.heap[b]? = some (.cells #[.string ⟨a.toArray⟩, .bool false] 47 (0, 0)) := by rw [hW1, ← hb]; exact heap_alloc_new W _
  have hKb : ¬ EntK bn bp bd ba (.slice va n vc) b := fun hk => by rw [← hnn] at hk; have := hbl b hk; omega
  have hS1 : Stay (EntK bn bp bd ba (.slice va n vc)) W W1 := fun k hk => hu1.block k (by rw [← hnn] at hk; exact hbl k hk) (fun e => hKb (by rw [← e]; exact hk))
  have n1 : (W.alloc (.cells #[.string ⟨a.toArray⟩, .bool false] 47)).cell? ⟨bn, 0, none⟩ = some (.slice va n vc) := by
    rw [← hW1]; exact hu1.cell n0' (fun e => hKb (.inl e.symm))
  rw [hb] at hJu hY
  have hJ1 : J 0 W1 := hJu 0 W W1 h0 hu1
  rw [hnn] at hE
  replace hE := Lib.hid hE
  replace hY := Lib.hid hY
  replace hJu := Lib.hid hJu
  replace hKb := Lib.hid hKb
  replace hS1 := Lib.hid hS1
  replace hb1 := Lib.hid hb1
  refine callsIn_of_wp Try.func25 rfl trivial ?_ rfl
  simp only [Try.ntmps25, List.size_toArray, List.length_cons, List.length_nil, Nat.reduceAdd, Nat.reduceSub, Array.replicate_succ, Array.replicate_zero, List.push_toArray, List.append_toArray, List.nil_append, List.cons_append]
  gi_wp2
  rw [← hW1]
  clear hW1 n1 hu1 n0' a0'
  gi_loopw [14] (fun iv wr => ∃ (k i : Nat) (last : Ent), iv = .int .i64 (k : Int) ∧ k ≤ n ∧ i ≤ (ents p d a l).length ∧ Hid ((ents p d a l).drop i = entsFrom p d a last (l.drop k)) ∧ J i wr ∧ wr.heap[b]? = some (.cells #[.string ⟨last.1.toArray⟩, .bool last.2] 47 (0, 0)) ∧ Stay (EntK bn bp bd ba (.slice va n vc)) W wr ∧ W.heap.size ≤ wr.heap.size) (fun iv _ => n - (intOf iv).toNat)
  case atStart => exact ⟨0, 0, (a, false), rfl, by omega, by omega, Lib.hid rfl, hJ1, hb1.out, hS1.out, by have := heap_lt hb1.out; omega⟩
  case round =>
    clear hJ1 hb1 hS1
    obtain ⟨k, i, last, rfl, hk, hi, hdr, hJ, hbw, hSw, hzw⟩ := hrel
    have hEw := hE.out.stay hSw hzw
    by_cases hkn : k < n
    · have hkn' : (k : Int) < (n : Int) := by omega
      have hk0 : (0 : Int) ≤ (k : Int) := by omega
      have hkl : k < l.length := by omega
      obtain ⟨_, _, e, hat⟩ := txts_at hEw.l
      injection e with e1 e2 e3
      subst e1
      clear e2 e3
      obtain ⟨g, off, rfl, hc⟩ := hat k hkl
      obtain ⟨s, hsk⟩ : ∃ s, l[k] = s := ⟨_, rfl⟩
      rw [hsk] at hc
      have hsl : s.length ≤ 140737488355328 := by rw [← hsk]; exact hs _ (List.getElem_mem hkl)
      have p0 : wr.cell? ⟨bp, 0, none⟩ = some (.string ⟨p.toArray⟩) := (cells_of hEw.p).1 0
      have d0 : wr.cell? ⟨bd, 0, none⟩ = some (.string ⟨d.toArray⟩) := (cells_of hEw.d).1 0
      have a0 : wr.cell? ⟨ba, 0, none⟩ = some (.string ⟨a.toArray⟩) := (cells_of hEw.a).1 0
      have hlt : ∀ k, EntK bn bp bd ba (.slice (some ⟨g, off, none⟩) n vc) k → k < wr.heap.size := fun k hk => by rw [← hnn] at hk; have := hbl k hk; omega
      have hgo : wr.cell? ⟨g, off + k, none⟩ = some (.string ⟨s.toArray⟩) := hc
      have cH := Lib.hid (fun w => lHasPrefix s p w)
      have hbl2 : Hid (∀ k, EntK bn bp bd ba (.slice (some ⟨g, off, none⟩) n vc) k → k < W.heap.size) := Lib.hid (fun k hk => by rw [← hnn] at hk; exact hbl k hk)
      clear hat hbl hSt h hc
      unfold txtV at cH
      by_cases hbg : begins s p = true
      · rw [hbg] at cH
        have hpl := begins_le hbg
        obtain ⟨x, hx⟩ : ∃ x, entOf s p d = x := ⟨_, rfl⟩
        have cO := Lib.hid (fun w => lOf s p d w hd hpl hsl)
        rw [hx] at cO
        obtain ⟨xs, xb⟩ := x
        unfold txtV entV at cO
        unfold txtV at cO
        simp only at cO
        obtain ⟨ls, lb⟩ := last
        simp only at hbw
        have c1 : wr.cell? ⟨b, 0, none⟩ = some (.string ⟨ls.toArray⟩) := (cells_of hbw).1 0
        have c2 : wr.cell? ⟨b, 1, none⟩ = some (.bool lb) := (cells_of hbw).1 1
        by_cases hle : Op.bytesLess a xs = false
        · have hsk2 := Lib.hid (ents_skip (p := p) (d := d) (a := a) (last := (ls, lb)) hkl (by rw [hsk, hx]; exact .inr (.inl hle)))
          have hq : Op.bytesLess xs a = true ∨ xs = a := by
            by_cases he : xs = a
            · exact .inr he
            · exact .inl (bl_total a xs (fun e => he e.symm) hle)
          have hq1 : (Op.bytesLess xs a || xs == a) = true := by rcases hq with h | h <;> simp [h]
          have hq2 : (Op.bytesLess xs a = false ∧ ¬ xs = a) = False := eq_false (fun h => by rcases hq with h' | h'; rw [h.1] at h'; cases h'; exact h.2 h')
          clear hq
          replace hle := Lib.hid hle
          gi_wp2
          refine ⟨trivial, (callsIn_wide.2 (cH.out _)).mono ?_⟩
          rintro e w2 ⟨rfl, hu2⟩
          have d02 := hu2.cell d0 fun h => h
          have p02 := hu2.cell p0 fun h => h
          gi_wp2
          refine ⟨trivial, (callsIn_wide.2 (cO.out _)).mono ?_⟩
          rintro e w3 ⟨rfl, hu3⟩
          have hA := ((hu2.trans hu3 fun _ _ h => h).trans (Upd.alloc Non w3 (.cells #[.string ⟨xs.toArray⟩, .bool xb] 47)) fun _ _ h => h)
          have a03 := hA.cell a0 fun h => h
          have c13 := hA.cell c1 fun h => h
          have c23 := hA.cell c2 fun h => h
          have hb3 := hA.heap hbw fun h => h
          have hx3 := heap_alloc_new w3 (.cells #[.string ⟨xs.toArray⟩, .bool xb] 47)
          have hJ3 := hJu.out i wr _ hJ (hA.mono fun _ _ h => h.elim)
          have hS3 : Stay (EntK bn bp bd ba (.slice (some ⟨g, off, none⟩) n vc)) W (w3.alloc (.cells #[.string ⟨xs.toArray⟩, .bool xb] 47)) := hSw.trans fun k hk => hA.block k (hlt k hk) fun h => h
          have hz3 := hA.size
          have hxb : b ≠ w3.heap.size := by have := heap_lt hbw; have := hu2.size; have := hu3.size; omega
          clear hJ hbw hSw hEw cH cO p0 d0 a0 hgo hu2 hu3 hlt c1 c2 d02 p02
          gi_wp2
          go_roundw
          case rel => exact ⟨k + 1, i, (ls, lb), by go_num, by omega, hi, Lib.hid (hdr.out.trans hsk2.out), hJ3, hb3, hS3, by omega⟩
          case measure => simp [intOf]; omega
        · have hlt' : Op.bytesLess a xs = true := by simpa using hle
          have hq1 : Op.bytesLess xs a = false := bl_asymm a xs hlt'
          have hne : xs ≠ a := fun e => less_ne hlt' e.symm
          have hq2 : (xs = a) = False := eq_false hne
          have hq3 : (xs == a) = false := by simp [hne]
          by_cases hsame : (xs, xb) = (ls, lb)
          · obtain ⟨rfl, rfl⟩ := Prod.mk.inj hsame
            have hsk2 := Lib.hid (ents_skip (p := p) (d := d) (a := a) (last := (xs, xb)) hkl (by rw [hsk, hx]; exact .inr (.inr rfl)))
            clear hle hlt' hne hsame
            gi_wp2
            refine ⟨trivial, (callsIn_wide.2 (cH.out _)).mono ?_⟩
            rintro e w2 ⟨rfl, hu2⟩
            have d02 := hu2.cell d0 fun h => h
            have p02 := hu2.cell p0 fun h => h
            gi_wp2
            refine ⟨trivial, (callsIn_wide.2 (cO.out _)).mono ?_⟩
            rintro e w3 ⟨rfl, hu3⟩
            have hA := ((hu2.trans hu3 fun _ _ h => h).trans (Upd.alloc Non w3 (.cells #[.string ⟨xs.toArray⟩, .bool xb] 47)) fun _ _ h => h)
            have a03 := hA.cell a0 fun h => h
            have c13 := hA.cell c1 fun h => h
            have c23 := hA.cell c2 fun h => h
            have hb3 := hA.heap hbw fun h => h
            have hx3 := heap_alloc_new w3 (.cells #[.string ⟨xs.toArray⟩, .bool xb] 47)
            have hJ3 := hJu.out i wr _ hJ (hA.mono fun _ _ h => h.elim)
            have hS3 : Stay (EntK bn bp bd ba (.slice (some ⟨g, off, none⟩) n vc)) W (w3.alloc (.cells #[.string ⟨xs.toArray⟩, .bool xb] 47)) := hSw.trans fun k hk => hA.block k (hlt k hk) fun h => h
            have hz3 := hA.size
            have hxb : b ≠ w3.heap.size := by have := heap_lt hbw; have := hu2.size; have := hu3.size; omega
            clear hJ hbw hSw hEw cH cO p0 d0 a0 hgo hu2 hu3 hlt c1 c2 d02 p02
            gi_wp2
            go_roundw
            case rel => exact ⟨k + 1, i, (xs, xb), by go_num, by omega, hi, Lib.hid (hdr.out.trans hsk2.out), hJ3, hb3, hS3, by omega⟩
            case measure => simp [intOf]; omega
          · have htk := ents_take (p := p) (d := d) (a := a) (last := (ls, lb)) hkl (by rw [hsk, hx]; rintro (h | h | h); rw [hbg] at h; cases h; exact hle h; exact hsame h)
            rw [hsk, hx] at htk
            replace htk := Lib.hid (hdr.out.trans htk)
            have hcase : (xs = ls) = False ∧ (xs == ls) = false ∨ xs = ls ∧ (xb = lb) = False ∧ (xb == lb) = false := by
              by_cases h1 : xs = ls
              · refine .inr ⟨h1, ?_⟩
                have h2 : xb ≠ lb := fun h2 => hsame (by rw [h1, h2])
                exact ⟨eq_false h2, by simp [h2]⟩
              · exact .inl ⟨eq_false h1, by simp [h1]⟩
            obtain ⟨hil, hel⟩ : ∃ h : i < (ents p d a l).length, (ents p d a l)[i] = (xs, xb) := by
              have hil : i < (ents p d a l).length := by
                have := congrArg List.length htk.out
                simp only [List.length_drop, List.length_cons] at this; omega
              have h2 := htk.out
              rw [List.drop_eq_getElem_cons hil] at h2
              exact ⟨hil, (List.cons.inj h2).1⟩
            have hnext : (ents p d a l).drop (i + 1) = entsFrom p d a (xs, xb) (l.drop (k + 1)) := by
              have h2 := htk.out
              rw [List.drop_eq_getElem_cons hil] at h2
              exact (List.cons.inj h2).2
            have hYi := fun W1 => hY.out i hil W1
            rw [hel, show encE (xs, xb) = #[.agg #[.string ⟨xs.toArray⟩, .bool xb]] from rfl] at hYi
            replace hYi := Lib.hid hYi
            replace hnext := Lib.hid hnext
            have hs47 := size_entry
            clear hle hlt' hne hsame hel htk
            rcases hcase with ⟨g1, g2⟩ | ⟨rfl, g1, g2⟩
            all_goals
              gi_wp2
              refine ⟨trivial, (callsIn_wide.2 (cH.out _)).mono ?_⟩
              rintro e w2 ⟨rfl, hu2⟩
              have d02 := hu2.cell d0 fun h => h
              have p02 := hu2.cell p0 fun h => h
              gi_wp2
              refine ⟨trivial, (callsIn_wide.2 (cO.out _)).mono ?_⟩
              rintro e w3 ⟨rfl, hu3⟩
              have hA := ((hu2.trans hu3 fun _ _ h => h).trans (Upd.alloc Non w3 (.cells #[.string ⟨xs.toArray⟩, .bool xb] 47)) fun _ _ h => h)
              have a03 := hA.cell a0 fun h => h
              have c13 := hA.cell c1 fun h => h
              have c23 := hA.cell c2 fun h => h
              have hb3 := hA.heap hbw fun h => h
              have hx3 := heap_alloc_new w3 (.cells #[.string ⟨xs.toArray⟩, .bool xb] 47)
              have hJ3 := hJu.out i wr _ hJ (hA.mono fun _ _ h => h.elim)
              have hS3 : Stay (EntK bn bp bd ba (.slice (some ⟨g, off, none⟩) n vc)) W (w3.alloc (.cells #[.string ⟨xs.toArray⟩, .bool xb] 47)) := hSw.trans fun k hk => hA.block k (hlt k hk) fun h => h
              have hz3 := hA.size
              have hxb : b ≠ w3.heap.size := by have := heap_lt hbw; have := hu2.size; have := hu3.size; omega
              clear hJ hbw hSw hEw cH cO p0 d0 a0 hgo hu2 hu3 hlt c1 c2 d02 p02
              gi_wp2_with (refine storeB_listIn rfl 47 _ _ rfl b #[.string ⟨xs.toArray⟩, .bool xb] _ _ rfl rfl hb3 rfl hs47.out (by simp [Value.oneCell']) ?_)
              intro w4 hb4 hu4
              have hJ4 := hJu.out i _ w4 hJ3 hu4
              have hx4 := hu4.heap hx3 (fun e => hxb e.symm)
              have hS4 : Stay (EntK bn bp bd ba (.slice (some ⟨g, off, none⟩) n vc)) W w4 := hS3.trans fun k hk => hu4.block k (by have := hbl2.out k hk; omega) (fun e => hKb.out (by rw [← e]; exact hk))
              have hz4 := hu4.size
              obtain ⟨e0, e1⟩ := cell2 hx4
              obtain ⟨fn, tmps, assign, body, hy, hR⟩ := hYi.out w4 hJ4 (heap_lt hb4)
              clear hJ3 hb3 hS3 hu4 hx3 a03 c13 c23 hA hxb
              gi_wp2
              refine hR.mono ?_
              rintro e W5 (⟨rfl, hJ5, hS5, hb5, hz5⟩ | ⟨rfl, hJx5⟩)
              · gi_wp2
                go_roundw
                case rel => exact ⟨k + 1, i + 1, (xs, xb), by go_num, by omega, by omega, hnext, hJ5, hb5.trans hb4, hS4.trans hS5, by omega⟩
                case measure => simp [intOf]; omega
              · gi_wp2
                refine bodyPost_ret (results_none rfl _ _ _) rfl ?_
                exact ⟨⟨_, rfl⟩, .inr ⟨i, hil, hJx5⟩⟩
      · have hbg' : begins s p = false := by simpa using hbg
        rw [hbg'] at cH
        have hsk2 := Lib.hid (ents_skip (p := p) (d := d) (a := a) (last := last) hkl (by rw [hsk]; exact .inl hbg'))
        gi_wp2
        refine ⟨trivial, (callsIn_wide.2 (cH.out _)).mono ?_⟩
        rintro e w2 ⟨rfl, hu2⟩
        have hJ2 := hJu.out i wr w2 hJ (hu2.mono fun _ _ h => h.elim)
        have hb2 := hu2.heap hbw fun h => h
        have hS2 : Stay (EntK bn bp bd ba (.slice (some ⟨g, off, none⟩) n vc)) W w2 := hSw.trans fun k hk => hu2.block k (hlt k hk) fun h => h
        have hz2 := hu2.size
        have hdr2 := Lib.hid (hdr.out.trans hsk2.out)
        clear hJ hbw hSw hEw cH p0 d0 a0 hgo hu2 hlt hsk2
        gi_wp2
        go_roundw
        case rel => exact ⟨k + 1, i, last, by go_num, by omega, hi, hdr2, hJ2, hb2, hS2, by omega⟩
        case measure => simp [intOf]; omega
    · obtain rfl : k = n := by omega
      have hkn' : ¬ (k : Int) < (k : Int) := by omega
      have hend : i = (ents p d a l).length := by
        have h2 := congrArg List.length hdr.out
        rw [List.drop_of_length_le (i := k) (by omega), entsFrom, List.length_drop, List.length_nil] at h2
        omega
      rw [hend] at hJ
      gi_wp2
      refine bodyPost_end (results_none rfl _ _ _) rfl ?_
      exact ⟨⟨_, rfl⟩, .inl hJ⟩
end Go.Proofs.Ytphdclafeijpnaa
