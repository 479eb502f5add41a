/- The walk over WireBack (printed by gen/mkwbk.py). -/
import Derived.Test.YtogekobpjjmnjaaMWireWritesW
import Derived.Test.YtogekobpjjmnjaaMWbA
import Derived.Test.YtogekobpjjmnjaaMWrY
namespace Go.Proofs.Ytogekobpjjmnjaa
open Go.RowKit Go.Amb
set_option linter.unusedVariables false
set_option linter.unusedSimpArgs false
set_option maxRecDepth 100000
attribute [local go_sem ↓] Go.wp_at_zero Go.wp_at_succ
theorem right_smallQ {q : Rq} (h : rightQ q) : smallQ q := by
  obtain ⟨⟨-, -, -, -, -, -, -, h6, ⟨h1, h2, h3, h4, h5⟩, -⟩, -⟩ := h
  unfold smallQ maxLen
  refine ⟨?_, ?_, ?_, ?_, ?_, ?_⟩ <;> omega
theorem putQ_most {q : Rq} (h : rightQ q) : 0 < (putQ q).length ∧ (putQ q).length ≤ 140737488355328 - 1 := by
  have h1 := flat_len h.1 (lets q.kind)
  have h2 := lets_short q.kind
  unfold putQ
  rw [List.length_append, fld_length]
  omega
theorem bytes_pre {w : World} {g cap n0 : Nat} {s : List UInt8} (h : Bytes w (.slice (some ⟨g, 0, none⟩) n0 cap) s) (n : Nat) (h1 : n ≤ s.length) : Bytes w (.slice (some ⟨g, 0, none⟩) n cap) (s.take n) := by
  obtain ⟨hl, a, c', hv, h1', h2', h3'⟩ := h
  injection hv with e1 e3 e2
  subst e1; subst e2
  have hn : (s.take n).length = n := by rw [List.length_take]; omega
  refine ⟨by rw [bc_length, Nat.mul_one], _, _, by rw [hn], by omega, h2', ?_⟩
  rcases h3' with h3' | ⟨g', off', he, hc'⟩
  · exact .inl (by omega)
  · refine .inr ⟨g', off', he, fun j u hj => hc' j u ?_⟩
    obtain ⟨hl', rfl⟩ := (bc_get _ _ _).1 hj
    exact (bc_get _ _ _).2 ⟨by omega, by rw [List.getElem_take]⟩
theorem own_formB {w : World} {base : Nat} {e : TypeId} {v : Value} {l : List UInt8} (h : Own w base e v l) (hl : 0 < l.length) : ∃ g cap, v = .slice (some ⟨g, 0, none⟩) l.length cap ∧ l.length ≤ cap ∧ cap ≤ maxLen ∧ base ≤ g ∧ g < w.heap.size := by
  have hh := h
  rcases h.2 with ⟨rfl, hn⟩ | ⟨g, cap, cur, rfl, hb, hg, hnc, hcm, hcs, htake⟩
  · omega
  · exact ⟨g, cap, rfl, hnc, hcm, hb, heap_lt hg⟩
theorem loadB_if {P : Program} {ops : Array Oper} {rest : List Oper} {op : Oper} {a : Act} {w : World} {Q : Exit → Act → World → Prop} (hw : Region.wanted op (yielded ops a.tmps) = true) (ty : TypeId) (x : Operand) (ho : op.op = .load ty x)
    (b : Nat) (cells : Array Value) (t : TypeId) (d : TypeDesc) (hx : a.eval x = .pointer (some ⟨b, 0, none⟩)) (hb : w.heap[b]? = some (.cells cells t (0, 0)))
    (hu : P.underlying ty = some d) (hd : d.isRow = true) (hi : (P.info? ty).map (·.size) = some cells.size)
    (h : wpList P ops Q rest (a.put op.dst (.agg cells)) w) : wpList P ops Q (op :: rest) a w :=
  wpList_step fun K hK => by
    rw [if_pos hw]
    exact wp_load_mid ty x ho b 0 hx cells.toList d (blk_range hb) hu hd (by simpa using hi) (hK _ _ (by simpa using h))
set_option maxHeartbeats 32000000 in
theorem lWireBack (q : Rq) (pv : Value) (s1 : List UInt8) (v1 : Value) (b8 : UInt8) (w : World) (hP : Ints w pv q.parts) (hs : smallQ q) (hpb : ∀ k, At pv k → k < w.heap.size) (hid : idOk q) (hB : Bytes w v1 s1) (hl1 : s1.length ≤ 140737488355328) : Calls Try.prog 6 #[rqV q pv, v1, .int .u8 (b8.toNat : Int)] w (Ret (.bool true) w) := by
  by_cases hg : rightQ q
  case pos =>
    cases hT : readQ s1 with
    | none =>
      have cL := Lib.hid lives24
      have hi := Lib.hid (@info_u8)
      have cR1 := Lib.hid (fun v w' h => wRead v s1 w' h hl1)
      unfold ReadQ at cR1
      rw [hT] at cR1
      have cC := Lib.hid (fun w' h => wCheck q pv w' h hs)
      have cB := Lib.hid (fun w' h hb => wBytes q pv w' h hs hb hid)
      unfold BytesQ at cB
      have cRa := Lib.hid (fun v w' h hl => wRead v (putQ q) w' h hl)
      have cRb := Lib.hid (fun v w' h hl => wRead v (putQ q ++ [b8]) w' h hl)
      have cRc := Lib.hid (fun v w' h hl => wRead v ((putQ q).take ((putQ q).length - 1)) w' h hl)
      unfold ReadQ at cRa cRb cRc
      rw [readQ_put hg hid] at cRa
      rw [readQ_more hg hid b8] at cRb
      rw [readQ_less hg hid] at cRc
      obtain ⟨hlp, hlb⟩ := putQ_most hg
      have cS := Lib.hid (fun pv' w' h1 h2 => sReq q pv' pv w' h1 h2)
      have hgg := Lib.hid hg
      generalize putQ q = bs at *
      have cZ := Lib.hid (fun pv' w' h => sReq zeroQ pv' (.slice none 0 0) w' h (Has.nil _ _))
      clear hT hs hid hl1 hg
      have hP' := Lib.hid hP
      obtain ⟨pa, pc, rfl, hlc, hcm, -⟩ := has1 hP
      unfold maxLen at hcm
      clear hP
      unfold rqV rqC at *
      obtain ⟨kind, session, bucket, object, version, pre, delim, body, ck, re, im, id, n, parts⟩ := q
      dsimp only [Option.getD, codeQ, Option.isSome] at *
      try dsimp only [zeroQ] at *
      have hst := heap_alloc_new w (.cells #[.int .i64 kind, .int .i64 session, .string ⟨bucket.toArray⟩, .string ⟨object.toArray⟩, .string ⟨version.toArray⟩, .string ⟨pre.toArray⟩, .string ⟨delim.toArray⟩, .string ⟨body.toArray⟩, .int .i64 ck, .int .i64 re, .int .i64 im, .int .i64 id, .int .i64 n, .slice pa parts.length pc] 30)
      have hsu : Upd Non w (w.alloc (.cells #[.int .i64 kind, .int .i64 session, .string ⟨bucket.toArray⟩, .string ⟨object.toArray⟩, .string ⟨version.toArray⟩, .string ⟨pre.toArray⟩, .string ⟨delim.toArray⟩, .string ⟨body.toArray⟩, .int .i64 ck, .int .i64 re, .int .i64 im, .int .i64 id, .int .i64 n, .slice pa parts.length pc] 30)) := Upd.alloc _ _ _
      have hsz : Hid ((Try.prog.info? 30).map (·.size) = some (#[.int .i64 kind, .int .i64 session, .string ⟨bucket.toArray⟩, .string ⟨object.toArray⟩, .string ⟨version.toArray⟩, .string ⟨pre.toArray⟩, .string ⟨delim.toArray⟩, .string ⟨body.toArray⟩, .int .i64 ck, .int .i64 re, .int .i64 im, .int .i64 id, .int .i64 n, .slice pa parts.length pc] : Array Value).size) := Lib.hid (by kernel_rfl)
      have hP0 := Lib.hid (hP'.out.non hsu)
      have hB1 := Lib.hid (hB.non hsu)
      have gU := Upd.refl Non (w.alloc (.cells #[.int .i64 kind, .int .i64 session, .string ⟨bucket.toArray⟩, .string ⟨object.toArray⟩, .string ⟨version.toArray⟩, .string ⟨pre.toArray⟩, .string ⟨delim.toArray⟩, .string ⟨body.toArray⟩, .int .i64 ck, .int .i64 re, .int .i64 im, .int .i64 id, .int .i64 n, .slice pa parts.length pc] 30))
      have hz := hsu.size
      obtain ⟨N, hN⟩ : ∃ N, w.heap.size = N := ⟨_, rfl⟩
      rw [hN] at hst hz
      obtain ⟨vb1, vb2, rfl⟩ := bytes_form hB
      clear hP' hB
      by_cases hl : parts.length ≤ 1000
      case neg =>
        have hlI : ¬ (parts.length : Int) ≤ 1000 := by omega
        clear hst hP0 hB1 cR1 cC cB
        go_enter Try.func6, Try.ntmps6
        go_wp2_with fail
        refine (cL.out _).mono ?_
        rintro en w2 ⟨rfl, hu⟩
        replace gU := gU.trans hu fun _ _ h => h
        clear hu
        go_wp2_with fail
        go_ret
        exact ⟨rfl, hsu.trans gU fun _ _ h => h⟩
      have hlI : (parts.length : Int) ≤ 1000 := by omega
      go_enter Try.func6, Try.ntmps6
      go_wp2_with ((with_reducible (show wpList _ _ _ (⟨_, Op.load _ _, _, _, _, _⟩ :: _) _ _)); refine loadB_list rfl 30 _ rfl N #[.int .i64 kind, .int .i64 session, .string ⟨bucket.toArray⟩, .string ⟨object.toArray⟩, .string ⟨version.toArray⟩, .string ⟨pre.toArray⟩, .string ⟨delim.toArray⟩, .string ⟨body.toArray⟩, .int .i64 ck, .int .i64 re, .int .i64 im, .int .i64 id, .int .i64 n, .slice pa parts.length pc] _ _ (by first | rfl | (rw [← hN]; rfl)) hst Try.underlying30 rfl hsz.out ?_)
      refine (cB.out _ (hP0.out.non gU) (fun k hk => by have := hpb k hk; have := gU.size; omega)).mono ?_
      rintro en w2 (⟨-, bv, rfl, hown, hu⟩ | ⟨h, -⟩)
      case inr => exact absurd hgg.out h
      replace gU := gU.trans hu fun _ _ h => h
      clear hu cB
      obtain ⟨g, cap, rfl, hlc2, hcm2, hgb, hgl⟩ := own_formB hown hlp
      have hbs := Lib.hid hown.bytes
      clear hown
      obtain ⟨m, hm⟩ : ∃ m, bs.length = m + 1 := ⟨bs.length - 1, by omega⟩
      rw [hm] at hlc2 hbs hlp hlb cRc ⊢
      have gV := Upd.refl Non w2
      rw [Nat.add_sub_cancel] at cRc
      unfold maxLen at hcm2
      have hU2 := gU.size
      go_wp2_with fail
      refine (cRa.out _ _ (hbs.out.non gV) (by omega)).mono ?_
      rintro en w3a ⟨pv3, rfl, hp3, hk3, hu⟩
      replace gV := gV.trans hu fun _ _ h => h
      clear hu
      obtain ⟨sa, sc, rfl, -⟩ := has1 hp3
      have hz3 := gV.size
      try dsimp only [zeroQ, List.length_nil] at hp3 ⊢
      have hbx := heap_alloc_new w3a (.cells #[.int .i64 0, .int .i64 0, .string ⟨#[]⟩, .string ⟨#[]⟩, .string ⟨#[]⟩, .string ⟨#[]⟩, .string ⟨#[]⟩, .string ⟨#[]⟩, .int .i64 0, .int .i64 0, .int .i64 0, .int .i64 0, .int .i64 0, .slice none 0 0] 30)
      have hsq3 : Hid ((Try.prog.info? 30).map (·.size) = some (#[.int .i64 kind, .int .i64 session, .string ⟨bucket.toArray⟩, .string ⟨object.toArray⟩, .string ⟨version.toArray⟩, .string ⟨pre.toArray⟩, .string ⟨delim.toArray⟩, .string ⟨body.toArray⟩, .int .i64 ck, .int .i64 re, .int .i64 im, .int .i64 id, .int .i64 n, .slice sa parts.length sc] : Array Value).size) := Lib.hid (by kernel_rfl)
      go_wp2_with ((with_reducible (show wpList _ _ _ (⟨_, Op.store _ _ _, _, _, _, _⟩ :: _) _ _)); refine storeB_list rfl 30 _ _ rfl w3a.heap.size #[.int .i64 kind, .int .i64 session, .string ⟨bucket.toArray⟩, .string ⟨object.toArray⟩, .string ⟨version.toArray⟩, .string ⟨pre.toArray⟩, .string ⟨delim.toArray⟩, .string ⟨body.toArray⟩, .int .i64 ck, .int .i64 re, .int .i64 im, .int .i64 id, .int .i64 n, .slice sa parts.length sc] _ _ rfl rfl hbx rfl hsq3.out (by simp [Value.oneCell']) ?_)
      intro w3 hb3 hu
      replace gV := (gV.then_alloc _).trans hu fun j hj h => by omega
      replace hp3 := Lib.hid ((hp3.non (Upd.alloc Non w3a (.cells #[.int .i64 0, .int .i64 0, .string ⟨#[]⟩, .string ⟨#[]⟩, .string ⟨#[]⟩, .string ⟨#[]⟩, .string ⟨#[]⟩, .string ⟨#[]⟩, .int .i64 0, .int .i64 0, .int .i64 0, .int .i64 0, .int .i64 0, .slice none 0 0] 30))).upd hu fun k hk e => by have := (hk3 k hk).2; omega)
      have hzz3 := Nat.le_trans (Upd.alloc Non w3a (.cells #[.int .i64 0, .int .i64 0, .string ⟨#[]⟩, .string ⟨#[]⟩, .string ⟨#[]⟩, .string ⟨#[]⟩, .string ⟨#[]⟩, .string ⟨#[]⟩, .int .i64 0, .int .i64 0, .int .i64 0, .int .i64 0, .int .i64 0, .slice none 0 0] 30)).size hu.size
      clear hu hbx
      have gX := Upd.refl Non w3
      go_wp2_with (at_builtin; go_must (refine wpList_app rfl _ _ 32 32 rfl w3.heap.size 5 (.int .u8 0) 1 1 Try.underlying32 hi.out rfl _ 0 _ rfl (own_lit0 w3 w3.heap.size 5 (Nat.le_refl _)) (.slice (some ⟨g, 0, none⟩) (m + 1) cap) (m + 1) (bc bs) rfl (Src.ofHas Try.underlying32 (by have h := (hbs.out.non gV).upd (Upd.alloc Non w3 (.cells #[] 5)) fun _ _ h => h; rw [hm] at h; exact h) (bc_one bs)) (by unfold maxLen; omega) (by omega) (by simp) ?_))
      intro v4 w4 ho4 hu4 hf4
      replace hu4 : Upd (At (.slice (some ⟨w3.heap.size, 0, none⟩) 0 0)) _ w4 := hu4
      have ho : Go.Amb.Own w4 w3.heap.size 5 v4 bs := by have := own_app (l := []) ho4; simpa using this
      replace gX := (gX.then_alloc _).trans hu4 fun j hj h => by simp [At, Value.ownBlock] at h; omega
      clear ho4 hu4 hf4
      have hz4 := gX.size
      go_wp2_with (at_builtin; go_must (refine wpList_app1 rfl _ _ 32 rfl w3.heap.size 5 (.int .u8 0) 1 1 Try.underlying32 hi.out rfl _ _ _ rfl ho [.int .u8 (b8.toNat : Int)] rfl rfl (one_cell _ _) ?h63 ?hby hz4 ?_))
      case h63 => unfold maxLen; omega
      case hby => omega
      intro v5 w5 ho5 hu5 hf5
      replace gX := gX.trans hu5 fun j hj h => by have := own_ge ho h; omega
      have ho6 := own_snoc ho5 rfl
      clear ho5 hu5 hf5 ho hz4
      go_wp2_with fail
      refine (cRb.out _ _ ho6.bytes (by rw [List.length_append, hm]; simp only [List.length_cons, List.length_nil]; omega)).mono ?_
      rintro en w5a ⟨pv5, rfl, hp5, hk5, hu⟩
      replace gX := gX.trans hu fun _ _ h => h
      clear hu
      clear ho6 cRb
      obtain ⟨ta, tc, rfl, -⟩ := has1 hp5
      have hz5 := gX.size
      try dsimp only [zeroQ, List.length_nil] at hp5 ⊢
      have hbx := heap_alloc_new w5a (.cells #[.int .i64 0, .int .i64 0, .string ⟨#[]⟩, .string ⟨#[]⟩, .string ⟨#[]⟩, .string ⟨#[]⟩, .string ⟨#[]⟩, .string ⟨#[]⟩, .int .i64 0, .int .i64 0, .int .i64 0, .int .i64 0, .int .i64 0, .slice none 0 0] 30)
      have hsq5 : Hid ((Try.prog.info? 30).map (·.size) = some (#[.int .i64 0, .int .i64 0, .string ⟨#[]⟩, .string ⟨#[]⟩, .string ⟨#[]⟩, .string ⟨#[]⟩, .string ⟨#[]⟩, .string ⟨#[]⟩, .int .i64 0, .int .i64 0, .int .i64 0, .int .i64 0, .int .i64 0, .slice ta 0 tc] : Array Value).size) := Lib.hid (by kernel_rfl)
      go_wp2_with ((with_reducible (show wpList _ _ _ (⟨_, Op.store _ _ _, _, _, _, _⟩ :: _) _ _)); refine storeB_list rfl 30 _ _ rfl w5a.heap.size #[.int .i64 0, .int .i64 0, .string ⟨#[]⟩, .string ⟨#[]⟩, .string ⟨#[]⟩, .string ⟨#[]⟩, .string ⟨#[]⟩, .string ⟨#[]⟩, .int .i64 0, .int .i64 0, .int .i64 0, .int .i64 0, .int .i64 0, .slice ta 0 tc] _ _ rfl rfl hbx rfl hsq5.out (by simp [Value.oneCell']) ?_)
      intro w5 hb5 hu
      replace gX := (gX.then_alloc _).trans hu fun j hj h => by omega
      clear hp5 hk5 hb5 hsq5
      clear hu hbx
      go_wp2_with (first | ((with_reducible (show wpList _ _ _ (⟨_, Op.load _ _, _, _, _, _⟩ :: _) _ _)); refine loadB_list rfl 30 _ rfl w3a.heap.size #[.int .i64 kind, .int .i64 session, .string ⟨bucket.toArray⟩, .string ⟨object.toArray⟩, .string ⟨version.toArray⟩, .string ⟨pre.toArray⟩, .string ⟨delim.toArray⟩, .string ⟨body.toArray⟩, .int .i64 ck, .int .i64 re, .int .i64 im, .int .i64 id, .int .i64 n, .slice sa parts.length sc] _ _ (by first | rfl | (rw [← hN]; rfl)) (gX.heap hb3 fun h => h) Try.underlying30 rfl hsq3.out ?_) | ((with_reducible (show wpList _ _ _ (⟨_, Op.load _ _, _, _, _, _⟩ :: _) _ _)); refine loadB_list rfl 30 _ rfl N #[.int .i64 kind, .int .i64 session, .string ⟨bucket.toArray⟩, .string ⟨object.toArray⟩, .string ⟨version.toArray⟩, .string ⟨pre.toArray⟩, .string ⟨delim.toArray⟩, .string ⟨body.toArray⟩, .int .i64 ck, .int .i64 re, .int .i64 im, .int .i64 id, .int .i64 n, .slice pa parts.length pc] _ _ (by first | rfl | (rw [← hN]; rfl)) ((gU.trans (gV.trans gX fun _ _ h => h) fun _ _ h => h).heap hst fun h => h) Try.underlying30 rfl hsz.out ?_))
      refine (cS.out _ _ (hp3.out.non gX) (hP0.out.non (gU.trans (gV.trans gX fun _ _ h => h) fun _ _ h => h))).mono ?_
      rintro en w6 ⟨rfl, hu⟩
      replace gV := gV.trans (gX.trans hu fun _ _ h => h) fun _ _ h => h
      clear hu cS gX hp3 hb3 hst hk3 hz3 hzz3 cRa hz5
      go_wp2_with fail
      refine (cRc.out _ _ (bytes_pre (hbs.out.non gV) m (by omega)) (by rw [List.length_take]; omega)).mono ?_
      rintro en w6a ⟨pv6, rfl, hp6, hk6, hu⟩
      replace gV := gV.trans hu fun _ _ h => h
      clear hu
      clear cRc
      obtain ⟨xa, xc, rfl, -⟩ := has1 hp6
      have hz6 := gV.size
      try dsimp only [zeroQ, List.length_nil] at hp6 ⊢
      have hbx := heap_alloc_new w6a (.cells #[.int .i64 0, .int .i64 0, .string ⟨#[]⟩, .string ⟨#[]⟩, .string ⟨#[]⟩, .string ⟨#[]⟩, .string ⟨#[]⟩, .string ⟨#[]⟩, .int .i64 0, .int .i64 0, .int .i64 0, .int .i64 0, .int .i64 0, .slice none 0 0] 30)
      have hsq6 : Hid ((Try.prog.info? 30).map (·.size) = some (#[.int .i64 0, .int .i64 0, .string ⟨#[]⟩, .string ⟨#[]⟩, .string ⟨#[]⟩, .string ⟨#[]⟩, .string ⟨#[]⟩, .string ⟨#[]⟩, .int .i64 0, .int .i64 0, .int .i64 0, .int .i64 0, .int .i64 0, .slice xa 0 xc] : Array Value).size) := Lib.hid (by kernel_rfl)
      go_wp2_with ((with_reducible (show wpList _ _ _ (⟨_, Op.store _ _ _, _, _, _, _⟩ :: _) _ _)); refine storeB_list rfl 30 _ _ rfl w6a.heap.size #[.int .i64 0, .int .i64 0, .string ⟨#[]⟩, .string ⟨#[]⟩, .string ⟨#[]⟩, .string ⟨#[]⟩, .string ⟨#[]⟩, .string ⟨#[]⟩, .int .i64 0, .int .i64 0, .int .i64 0, .int .i64 0, .int .i64 0, .slice xa 0 xc] _ _ rfl rfl hbx rfl hsq6.out (by simp [Value.oneCell']) ?_)
      intro w6 hb6 hu
      replace gV := (gV.then_alloc _).trans hu fun j hj h => by omega
      clear hp6 hk6 hb6 hsq6
      clear hu hbx
      replace gU := gU.trans gV fun _ _ h => h
      clear gV hbs hz6
      go_wp2_with fail
      refine (cR1.out _ _ (hB1.out.non gU)).mono ?_
      rintro en w7a ⟨pv7, rfl, hp7, hk7, hu⟩
      replace gU := gU.trans hu fun _ _ h => h
      clear hu
      obtain ⟨ua, uc, rfl, -⟩ := has1 hp7
      have hz7 := gU.size
      try dsimp only [zeroQ, List.length_nil] at hp7 ⊢
      have hbx := heap_alloc_new w7a (.cells #[.int .i64 0, .int .i64 0, .string ⟨#[]⟩, .string ⟨#[]⟩, .string ⟨#[]⟩, .string ⟨#[]⟩, .string ⟨#[]⟩, .string ⟨#[]⟩, .int .i64 0, .int .i64 0, .int .i64 0, .int .i64 0, .int .i64 0, .slice none 0 0] 30)
      have hsq7 : Hid ((Try.prog.info? 30).map (·.size) = some (#[.int .i64 0, .int .i64 0, .string ⟨#[]⟩, .string ⟨#[]⟩, .string ⟨#[]⟩, .string ⟨#[]⟩, .string ⟨#[]⟩, .string ⟨#[]⟩, .int .i64 0, .int .i64 0, .int .i64 0, .int .i64 0, .int .i64 0, .slice ua 0 uc] : Array Value).size) := Lib.hid (by kernel_rfl)
      go_wp2_with ((with_reducible (show wpList _ _ _ (⟨_, Op.store _ _ _, _, _, _, _⟩ :: _) _ _)); refine storeB_list rfl 30 _ _ rfl w7a.heap.size #[.int .i64 0, .int .i64 0, .string ⟨#[]⟩, .string ⟨#[]⟩, .string ⟨#[]⟩, .string ⟨#[]⟩, .string ⟨#[]⟩, .string ⟨#[]⟩, .int .i64 0, .int .i64 0, .int .i64 0, .int .i64 0, .int .i64 0, .slice ua 0 uc] _ _ rfl rfl hbx rfl hsq7.out (by simp [Value.oneCell']) ?_)
      intro w7 hb7 hu
      replace gU := (gU.then_alloc _).trans hu fun j hj h => by omega
      replace hp7 := Lib.hid ((hp7.non (Upd.alloc Non w7a (.cells #[.int .i64 0, .int .i64 0, .string ⟨#[]⟩, .string ⟨#[]⟩, .string ⟨#[]⟩, .string ⟨#[]⟩, .string ⟨#[]⟩, .string ⟨#[]⟩, .int .i64 0, .int .i64 0, .int .i64 0, .int .i64 0, .int .i64 0, .slice none 0 0] 30))).upd hu fun k hk e => by have := (hk7 k hk).2; omega)
      have hzz7 := Nat.le_trans (Upd.alloc Non w7a (.cells #[.int .i64 0, .int .i64 0, .string ⟨#[]⟩, .string ⟨#[]⟩, .string ⟨#[]⟩, .string ⟨#[]⟩, .string ⟨#[]⟩, .string ⟨#[]⟩, .int .i64 0, .int .i64 0, .int .i64 0, .int .i64 0, .int .i64 0, .slice none 0 0] 30)).size hu.size
      clear hu hbx
      go_wp2_with ((with_reducible (show wpList _ _ _ (⟨_, Op.load _ _, _, _, _, _⟩ :: _) _ _)); refine loadB_list rfl 30 _ rfl w7a.heap.size #[.int .i64 0, .int .i64 0, .string ⟨#[]⟩, .string ⟨#[]⟩, .string ⟨#[]⟩, .string ⟨#[]⟩, .string ⟨#[]⟩, .string ⟨#[]⟩, .int .i64 0, .int .i64 0, .int .i64 0, .int .i64 0, .int .i64 0, .slice ua 0 uc] _ _ (by first | rfl | (rw [← hN]; rfl)) hb7 Try.underlying30 rfl hsq7.out ?_)
      refine (cZ.out _ _ hp7.out).mono ?_
      rintro en w8 ⟨rfl, hu⟩
      replace gU := gU.trans hu fun _ _ h => h
      clear hu hb7 hp7
      go_wp2_with fail
      refine (cL.out _).mono ?_
      rintro en w9 ⟨rfl, hu⟩
      replace gU := gU.trans hu fun _ _ h => h
      clear hu
      go_wp2_with fail
      go_ret
      exact ⟨rfl, hsu.trans gU fun _ _ h => h⟩
    | some r1 =>
      have cL := Lib.hid lives24
      have hi := Lib.hid (@info_u8)
      have cR1 := Lib.hid (fun v w' h => wRead v s1 w' h hl1)
      unfold ReadQ at cR1
      rw [hT] at cR1
      have cC := Lib.hid (fun w' h => wCheck q pv w' h hs)
      have cB := Lib.hid (fun w' h hb => wBytes q pv w' h hs hb hid)
      unfold BytesQ at cB
      have cRa := Lib.hid (fun v w' h hl => wRead v (putQ q) w' h hl)
      have cRb := Lib.hid (fun v w' h hl => wRead v (putQ q ++ [b8]) w' h hl)
      have cRc := Lib.hid (fun v w' h hl => wRead v ((putQ q).take ((putQ q).length - 1)) w' h hl)
      unfold ReadQ at cRa cRb cRc
      rw [readQ_put hg hid] at cRa
      rw [readQ_more hg hid b8] at cRb
      rw [readQ_less hg hid] at cRc
      obtain ⟨hlp, hlb⟩ := putQ_most hg
      have cS := Lib.hid (fun pv' w' h1 h2 => sReq q pv' pv w' h1 h2)
      have hgg := Lib.hid hg
      generalize putQ q = bs at *
      obtain ⟨hp1, hg1, -⟩ := readQ_some hT
      have cA1 := Lib.hid (fun pv' w' h hlt => wBytes2 r1 pv' w' h (right_smallQ hg1) hlt (readQ_id hT))
      rw [show ckQ r1 = 0 from if_pos hg1, show bytesB r1 = putQ r1 from if_pos hg1, hp1] at cA1
      clear hg1 hp1
      clear hT hs hid hl1 hg
      have hP' := Lib.hid hP
      obtain ⟨pa, pc, rfl, hlc, hcm, -⟩ := has1 hP
      unfold maxLen at hcm
      clear hP
      unfold rqV rqC at *
      obtain ⟨kind, session, bucket, object, version, pre, delim, body, ck, re, im, id, n, parts⟩ := q
      obtain ⟨kindd, sessiond, bucketd, objectd, versiond, pred, delimd, bodyd, ckd, red, imd, idd, nd, partsd⟩ := r1
      dsimp only [Option.getD, codeQ, Option.isSome] at *
      try dsimp only [zeroQ] at *
      have hst := heap_alloc_new w (.cells #[.int .i64 kind, .int .i64 session, .string ⟨bucket.toArray⟩, .string ⟨object.toArray⟩, .string ⟨version.toArray⟩, .string ⟨pre.toArray⟩, .string ⟨delim.toArray⟩, .string ⟨body.toArray⟩, .int .i64 ck, .int .i64 re, .int .i64 im, .int .i64 id, .int .i64 n, .slice pa parts.length pc] 30)
      have hsu : Upd Non w (w.alloc (.cells #[.int .i64 kind, .int .i64 session, .string ⟨bucket.toArray⟩, .string ⟨object.toArray⟩, .string ⟨version.toArray⟩, .string ⟨pre.toArray⟩, .string ⟨delim.toArray⟩, .string ⟨body.toArray⟩, .int .i64 ck, .int .i64 re, .int .i64 im, .int .i64 id, .int .i64 n, .slice pa parts.length pc] 30)) := Upd.alloc _ _ _
      have hsz : Hid ((Try.prog.info? 30).map (·.size) = some (#[.int .i64 kind, .int .i64 session, .string ⟨bucket.toArray⟩, .string ⟨object.toArray⟩, .string ⟨version.toArray⟩, .string ⟨pre.toArray⟩, .string ⟨delim.toArray⟩, .string ⟨body.toArray⟩, .int .i64 ck, .int .i64 re, .int .i64 im, .int .i64 id, .int .i64 n, .slice pa parts.length pc] : Array Value).size) := Lib.hid (by kernel_rfl)
      have hP0 := Lib.hid (hP'.out.non hsu)
      have hB1 := Lib.hid (hB.non hsu)
      have gU := Upd.refl Non (w.alloc (.cells #[.int .i64 kind, .int .i64 session, .string ⟨bucket.toArray⟩, .string ⟨object.toArray⟩, .string ⟨version.toArray⟩, .string ⟨pre.toArray⟩, .string ⟨delim.toArray⟩, .string ⟨body.toArray⟩, .int .i64 ck, .int .i64 re, .int .i64 im, .int .i64 id, .int .i64 n, .slice pa parts.length pc] 30))
      have hz := hsu.size
      obtain ⟨N, hN⟩ : ∃ N, w.heap.size = N := ⟨_, rfl⟩
      rw [hN] at hst hz
      obtain ⟨vb1, vb2, rfl⟩ := bytes_form hB
      clear hP' hB
      by_cases hl : parts.length ≤ 1000
      case neg =>
        have hlI : ¬ (parts.length : Int) ≤ 1000 := by omega
        clear hst hP0 hB1 cR1 cC cB
        go_enter Try.func6, Try.ntmps6
        go_wp2_with fail
        refine (cL.out _).mono ?_
        rintro en w2 ⟨rfl, hu⟩
        replace gU := gU.trans hu fun _ _ h => h
        clear hu
        go_wp2_with fail
        go_ret
        exact ⟨rfl, hsu.trans gU fun _ _ h => h⟩
      have hlI : (parts.length : Int) ≤ 1000 := by omega
      go_enter Try.func6, Try.ntmps6
      go_wp2_with ((with_reducible (show wpList _ _ _ (⟨_, Op.load _ _, _, _, _, _⟩ :: _) _ _)); refine loadB_list rfl 30 _ rfl N #[.int .i64 kind, .int .i64 session, .string ⟨bucket.toArray⟩, .string ⟨object.toArray⟩, .string ⟨version.toArray⟩, .string ⟨pre.toArray⟩, .string ⟨delim.toArray⟩, .string ⟨body.toArray⟩, .int .i64 ck, .int .i64 re, .int .i64 im, .int .i64 id, .int .i64 n, .slice pa parts.length pc] _ _ (by first | rfl | (rw [← hN]; rfl)) hst Try.underlying30 rfl hsz.out ?_)
      refine (cB.out _ (hP0.out.non gU) (fun k hk => by have := hpb k hk; have := gU.size; omega)).mono ?_
      rintro en w2 (⟨-, bv, rfl, hown, hu⟩ | ⟨h, -⟩)
      case inr => exact absurd hgg.out h
      replace gU := gU.trans hu fun _ _ h => h
      clear hu cB
      obtain ⟨g, cap, rfl, hlc2, hcm2, hgb, hgl⟩ := own_formB hown hlp
      have hbs := Lib.hid hown.bytes
      clear hown
      obtain ⟨m, hm⟩ : ∃ m, bs.length = m + 1 := ⟨bs.length - 1, by omega⟩
      rw [hm] at hlc2 hbs hlp hlb cRc ⊢
      have gV := Upd.refl Non w2
      rw [Nat.add_sub_cancel] at cRc
      unfold maxLen at hcm2
      have hU2 := gU.size
      go_wp2_with fail
      refine (cRa.out _ _ (hbs.out.non gV) (by omega)).mono ?_
      rintro en w3a ⟨pv3, rfl, hp3, hk3, hu⟩
      replace gV := gV.trans hu fun _ _ h => h
      clear hu
      obtain ⟨sa, sc, rfl, -⟩ := has1 hp3
      have hz3 := gV.size
      try dsimp only [zeroQ, List.length_nil] at hp3 ⊢
      have hbx := heap_alloc_new w3a (.cells #[.int .i64 0, .int .i64 0, .string ⟨#[]⟩, .string ⟨#[]⟩, .string ⟨#[]⟩, .string ⟨#[]⟩, .string ⟨#[]⟩, .string ⟨#[]⟩, .int .i64 0, .int .i64 0, .int .i64 0, .int .i64 0, .int .i64 0, .slice none 0 0] 30)
      have hsq3 : Hid ((Try.prog.info? 30).map (·.size) = some (#[.int .i64 kind, .int .i64 session, .string ⟨bucket.toArray⟩, .string ⟨object.toArray⟩, .string ⟨version.toArray⟩, .string ⟨pre.toArray⟩, .string ⟨delim.toArray⟩, .string ⟨body.toArray⟩, .int .i64 ck, .int .i64 re, .int .i64 im, .int .i64 id, .int .i64 n, .slice sa parts.length sc] : Array Value).size) := Lib.hid (by kernel_rfl)
      go_wp2_with ((with_reducible (show wpList _ _ _ (⟨_, Op.store _ _ _, _, _, _, _⟩ :: _) _ _)); refine storeB_list rfl 30 _ _ rfl w3a.heap.size #[.int .i64 kind, .int .i64 session, .string ⟨bucket.toArray⟩, .string ⟨object.toArray⟩, .string ⟨version.toArray⟩, .string ⟨pre.toArray⟩, .string ⟨delim.toArray⟩, .string ⟨body.toArray⟩, .int .i64 ck, .int .i64 re, .int .i64 im, .int .i64 id, .int .i64 n, .slice sa parts.length sc] _ _ rfl rfl hbx rfl hsq3.out (by simp [Value.oneCell']) ?_)
      intro w3 hb3 hu
      replace gV := (gV.then_alloc _).trans hu fun j hj h => by omega
      replace hp3 := Lib.hid ((hp3.non (Upd.alloc Non w3a (.cells #[.int .i64 0, .int .i64 0, .string ⟨#[]⟩, .string ⟨#[]⟩, .string ⟨#[]⟩, .string ⟨#[]⟩, .string ⟨#[]⟩, .string ⟨#[]⟩, .int .i64 0, .int .i64 0, .int .i64 0, .int .i64 0, .int .i64 0, .slice none 0 0] 30))).upd hu fun k hk e => by have := (hk3 k hk).2; omega)
      have hzz3 := Nat.le_trans (Upd.alloc Non w3a (.cells #[.int .i64 0, .int .i64 0, .string ⟨#[]⟩, .string ⟨#[]⟩, .string ⟨#[]⟩, .string ⟨#[]⟩, .string ⟨#[]⟩, .string ⟨#[]⟩, .int .i64 0, .int .i64 0, .int .i64 0, .int .i64 0, .int .i64 0, .slice none 0 0] 30)).size hu.size
      clear hu hbx
      have gX := Upd.refl Non w3
      go_wp2_with (at_builtin; go_must (refine wpList_app rfl _ _ 32 32 rfl w3.heap.size 5 (.int .u8 0) 1 1 Try.underlying32 hi.out rfl _ 0 _ rfl (own_lit0 w3 w3.heap.size 5 (Nat.le_refl _)) (.slice (some ⟨g, 0, none⟩) (m + 1) cap) (m + 1) (bc bs) rfl (Src.ofHas Try.underlying32 (by have h := (hbs.out.non gV).upd (Upd.alloc Non w3 (.cells #[] 5)) fun _ _ h => h; rw [hm] at h; exact h) (bc_one bs)) (by unfold maxLen; omega) (by omega) (by simp) ?_))
      intro v4 w4 ho4 hu4 hf4
      replace hu4 : Upd (At (.slice (some ⟨w3.heap.size, 0, none⟩) 0 0)) _ w4 := hu4
      have ho : Go.Amb.Own w4 w3.heap.size 5 v4 bs := by have := own_app (l := []) ho4; simpa using this
      replace gX := (gX.then_alloc _).trans hu4 fun j hj h => by simp [At, Value.ownBlock] at h; omega
      clear ho4 hu4 hf4
      have hz4 := gX.size
      go_wp2_with (at_builtin; go_must (refine wpList_app1 rfl _ _ 32 rfl w3.heap.size 5 (.int .u8 0) 1 1 Try.underlying32 hi.out rfl _ _ _ rfl ho [.int .u8 (b8.toNat : Int)] rfl rfl (one_cell _ _) ?h63 ?hby hz4 ?_))
      case h63 => unfold maxLen; omega
      case hby => omega
      intro v5 w5 ho5 hu5 hf5
      replace gX := gX.trans hu5 fun j hj h => by have := own_ge ho h; omega
      have ho6 := own_snoc ho5 rfl
      clear ho5 hu5 hf5 ho hz4
      go_wp2_with fail
      refine (cRb.out _ _ ho6.bytes (by rw [List.length_append, hm]; simp only [List.length_cons, List.length_nil]; omega)).mono ?_
      rintro en w5a ⟨pv5, rfl, hp5, hk5, hu⟩
      replace gX := gX.trans hu fun _ _ h => h
      clear hu
      clear ho6 cRb
      obtain ⟨ta, tc, rfl, -⟩ := has1 hp5
      have hz5 := gX.size
      try dsimp only [zeroQ, List.length_nil] at hp5 ⊢
      have hbx := heap_alloc_new w5a (.cells #[.int .i64 0, .int .i64 0, .string ⟨#[]⟩, .string ⟨#[]⟩, .string ⟨#[]⟩, .string ⟨#[]⟩, .string ⟨#[]⟩, .string ⟨#[]⟩, .int .i64 0, .int .i64 0, .int .i64 0, .int .i64 0, .int .i64 0, .slice none 0 0] 30)
      have hsq5 : Hid ((Try.prog.info? 30).map (·.size) = some (#[.int .i64 0, .int .i64 0, .string ⟨#[]⟩, .string ⟨#[]⟩, .string ⟨#[]⟩, .string ⟨#[]⟩, .string ⟨#[]⟩, .string ⟨#[]⟩, .int .i64 0, .int .i64 0, .int .i64 0, .int .i64 0, .int .i64 0, .slice ta 0 tc] : Array Value).size) := Lib.hid (by kernel_rfl)
      go_wp2_with ((with_reducible (show wpList _ _ _ (⟨_, Op.store _ _ _, _, _, _, _⟩ :: _) _ _)); refine storeB_list rfl 30 _ _ rfl w5a.heap.size #[.int .i64 0, .int .i64 0, .string ⟨#[]⟩, .string ⟨#[]⟩, .string ⟨#[]⟩, .string ⟨#[]⟩, .string ⟨#[]⟩, .string ⟨#[]⟩, .int .i64 0, .int .i64 0, .int .i64 0, .int .i64 0, .int .i64 0, .slice ta 0 tc] _ _ rfl rfl hbx rfl hsq5.out (by simp [Value.oneCell']) ?_)
      intro w5 hb5 hu
      replace gX := (gX.then_alloc _).trans hu fun j hj h => by omega
      clear hp5 hk5 hb5 hsq5
      clear hu hbx
      go_wp2_with (first | ((with_reducible (show wpList _ _ _ (⟨_, Op.load _ _, _, _, _, _⟩ :: _) _ _)); refine loadB_list rfl 30 _ rfl w3a.heap.size #[.int .i64 kind, .int .i64 session, .string ⟨bucket.toArray⟩, .string ⟨object.toArray⟩, .string ⟨version.toArray⟩, .string ⟨pre.toArray⟩, .string ⟨delim.toArray⟩, .string ⟨body.toArray⟩, .int .i64 ck, .int .i64 re, .int .i64 im, .int .i64 id, .int .i64 n, .slice sa parts.length sc] _ _ (by first | rfl | (rw [← hN]; rfl)) (gX.heap hb3 fun h => h) Try.underlying30 rfl hsq3.out ?_) | ((with_reducible (show wpList _ _ _ (⟨_, Op.load _ _, _, _, _, _⟩ :: _) _ _)); refine loadB_list rfl 30 _ rfl N #[.int .i64 kind, .int .i64 session, .string ⟨bucket.toArray⟩, .string ⟨object.toArray⟩, .string ⟨version.toArray⟩, .string ⟨pre.toArray⟩, .string ⟨delim.toArray⟩, .string ⟨body.toArray⟩, .int .i64 ck, .int .i64 re, .int .i64 im, .int .i64 id, .int .i64 n, .slice pa parts.length pc] _ _ (by first | rfl | (rw [← hN]; rfl)) ((gU.trans (gV.trans gX fun _ _ h => h) fun _ _ h => h).heap hst fun h => h) Try.underlying30 rfl hsz.out ?_))
      refine (cS.out _ _ (hp3.out.non gX) (hP0.out.non (gU.trans (gV.trans gX fun _ _ h => h) fun _ _ h => h))).mono ?_
      rintro en w6 ⟨rfl, hu⟩
      replace gV := gV.trans (gX.trans hu fun _ _ h => h) fun _ _ h => h
      clear hu cS gX hp3 hb3 hst hk3 hz3 hzz3 cRa hz5
      go_wp2_with fail
      refine (cRc.out _ _ (bytes_pre (hbs.out.non gV) m (by omega)) (by rw [List.length_take]; omega)).mono ?_
      rintro en w6a ⟨pv6, rfl, hp6, hk6, hu⟩
      replace gV := gV.trans hu fun _ _ h => h
      clear hu
      clear cRc
      obtain ⟨xa, xc, rfl, -⟩ := has1 hp6
      have hz6 := gV.size
      try dsimp only [zeroQ, List.length_nil] at hp6 ⊢
      have hbx := heap_alloc_new w6a (.cells #[.int .i64 0, .int .i64 0, .string ⟨#[]⟩, .string ⟨#[]⟩, .string ⟨#[]⟩, .string ⟨#[]⟩, .string ⟨#[]⟩, .string ⟨#[]⟩, .int .i64 0, .int .i64 0, .int .i64 0, .int .i64 0, .int .i64 0, .slice none 0 0] 30)
      have hsq6 : Hid ((Try.prog.info? 30).map (·.size) = some (#[.int .i64 0, .int .i64 0, .string ⟨#[]⟩, .string ⟨#[]⟩, .string ⟨#[]⟩, .string ⟨#[]⟩, .string ⟨#[]⟩, .string ⟨#[]⟩, .int .i64 0, .int .i64 0, .int .i64 0, .int .i64 0, .int .i64 0, .slice xa 0 xc] : Array Value).size) := Lib.hid (by kernel_rfl)
      go_wp2_with ((with_reducible (show wpList _ _ _ (⟨_, Op.store _ _ _, _, _, _, _⟩ :: _) _ _)); refine storeB_list rfl 30 _ _ rfl w6a.heap.size #[.int .i64 0, .int .i64 0, .string ⟨#[]⟩, .string ⟨#[]⟩, .string ⟨#[]⟩, .string ⟨#[]⟩, .string ⟨#[]⟩, .string ⟨#[]⟩, .int .i64 0, .int .i64 0, .int .i64 0, .int .i64 0, .int .i64 0, .slice xa 0 xc] _ _ rfl rfl hbx rfl hsq6.out (by simp [Value.oneCell']) ?_)
      intro w6 hb6 hu
      replace gV := (gV.then_alloc _).trans hu fun j hj h => by omega
      clear hp6 hk6 hb6 hsq6
      clear hu hbx
      replace gU := gU.trans gV fun _ _ h => h
      clear gV hbs hz6
      go_wp2_with fail
      refine (cR1.out _ _ (hB1.out.non gU)).mono ?_
      rintro en w7a ⟨pv7, rfl, hp7, hk7, hu⟩
      replace gU := gU.trans hu fun _ _ h => h
      clear hu
      obtain ⟨ua, uc, rfl, -⟩ := has1 hp7
      have hz7 := gU.size
      try dsimp only [zeroQ, List.length_nil] at hp7 ⊢
      have hbx := heap_alloc_new w7a (.cells #[.int .i64 0, .int .i64 0, .string ⟨#[]⟩, .string ⟨#[]⟩, .string ⟨#[]⟩, .string ⟨#[]⟩, .string ⟨#[]⟩, .string ⟨#[]⟩, .int .i64 0, .int .i64 0, .int .i64 0, .int .i64 0, .int .i64 0, .slice none 0 0] 30)
      have hsq7 : Hid ((Try.prog.info? 30).map (·.size) = some (#[.int .i64 kindd, .int .i64 sessiond, .string ⟨bucketd.toArray⟩, .string ⟨objectd.toArray⟩, .string ⟨versiond.toArray⟩, .string ⟨pred.toArray⟩, .string ⟨delimd.toArray⟩, .string ⟨bodyd.toArray⟩, .int .i64 ckd, .int .i64 red, .int .i64 imd, .int .i64 idd, .int .i64 nd, .slice ua partsd.length uc] : Array Value).size) := Lib.hid (by kernel_rfl)
      go_wp2_with ((with_reducible (show wpList _ _ _ (⟨_, Op.store _ _ _, _, _, _, _⟩ :: _) _ _)); refine storeB_list rfl 30 _ _ rfl w7a.heap.size #[.int .i64 kindd, .int .i64 sessiond, .string ⟨bucketd.toArray⟩, .string ⟨objectd.toArray⟩, .string ⟨versiond.toArray⟩, .string ⟨pred.toArray⟩, .string ⟨delimd.toArray⟩, .string ⟨bodyd.toArray⟩, .int .i64 ckd, .int .i64 red, .int .i64 imd, .int .i64 idd, .int .i64 nd, .slice ua partsd.length uc] _ _ rfl rfl hbx rfl hsq7.out (by simp [Value.oneCell']) ?_)
      intro w7 hb7 hu
      replace gU := (gU.then_alloc _).trans hu fun j hj h => by omega
      replace hp7 := Lib.hid ((hp7.non (Upd.alloc Non w7a (.cells #[.int .i64 0, .int .i64 0, .string ⟨#[]⟩, .string ⟨#[]⟩, .string ⟨#[]⟩, .string ⟨#[]⟩, .string ⟨#[]⟩, .string ⟨#[]⟩, .int .i64 0, .int .i64 0, .int .i64 0, .int .i64 0, .int .i64 0, .slice none 0 0] 30))).upd hu fun k hk e => by have := (hk7 k hk).2; omega)
      have hzz7 := Nat.le_trans (Upd.alloc Non w7a (.cells #[.int .i64 0, .int .i64 0, .string ⟨#[]⟩, .string ⟨#[]⟩, .string ⟨#[]⟩, .string ⟨#[]⟩, .string ⟨#[]⟩, .string ⟨#[]⟩, .int .i64 0, .int .i64 0, .int .i64 0, .int .i64 0, .int .i64 0, .slice none 0 0] 30)).size hu.size
      clear hu hbx
      go_wp2_with ((with_reducible (show wpList _ _ _ (⟨_, Op.load _ _, _, _, _, _⟩ :: _) _ _)); refine loadB_list rfl 30 _ rfl w7a.heap.size #[.int .i64 kindd, .int .i64 sessiond, .string ⟨bucketd.toArray⟩, .string ⟨objectd.toArray⟩, .string ⟨versiond.toArray⟩, .string ⟨pred.toArray⟩, .string ⟨delimd.toArray⟩, .string ⟨bodyd.toArray⟩, .int .i64 ckd, .int .i64 red, .int .i64 imd, .int .i64 idd, .int .i64 nd, .slice ua partsd.length uc] _ _ (by first | rfl | (rw [← hN]; rfl)) hb7 Try.underlying30 rfl hsq7.out ?_)
      refine (cA1.out _ w7 hp7.out (fun k hk => by have := (hk7 k hk).2; omega)).mono ?_
      rintro en w8 ⟨bv, rfl, hbv, hu, -⟩
      replace gU := gU.trans hu fun _ _ h => h
      have st1 := run_str (P := Try.prog) _ 32 9 5 Try.underlying32 Try.underlying5 Try.underlying9 _ _ hbv
      have st2 := run_str (P := Try.prog) _ 32 9 5 Try.underlying32 Try.underlying5 Try.underlying9 _ _ (hB1.out.non gU)
      obtain ⟨va, vc, rfl⟩ := bytes_form hbv
      clear hu hb7 hp7 hbv
      go_wp2_with fail
      refine (cL.out _).mono ?_
      rintro en w9 ⟨rfl, hu⟩
      replace gU := gU.trans hu fun _ _ h => h
      clear hu
      go_wp2_with fail
      go_ret
      exact ⟨rfl, hsu.trans gU fun _ _ h => h⟩
  case neg =>
    cases hT : readQ s1 with
    | none =>
      have cL := Lib.hid lives24
      have hi := Lib.hid (@info_u8)
      have cR1 := Lib.hid (fun v w' h => wRead v s1 w' h hl1)
      unfold ReadQ at cR1
      rw [hT] at cR1
      have cC := Lib.hid (fun w' h => wCheck q pv w' h hs)
      have cB := Lib.hid (fun w' h hb => wBytes2 q pv w' h hs hb hid)
      rw [show ckQ q = 4 from if_neg hg, show bytesB q = [] from if_neg hg] at cB
      rw [show ckQ q = 4 from if_neg hg] at cC
      have hgg := Lib.hid hg
      have cZ := Lib.hid (fun pv' w' h => sReq zeroQ pv' (.slice none 0 0) w' h (Has.nil _ _))
      clear hT hs hid hl1 hg
      have hP' := Lib.hid hP
      obtain ⟨pa, pc, rfl, hlc, hcm, -⟩ := has1 hP
      unfold maxLen at hcm
      clear hP
      unfold rqV rqC at *
      obtain ⟨kind, session, bucket, object, version, pre, delim, body, ck, re, im, id, n, parts⟩ := q
      dsimp only [Option.getD, codeQ, Option.isSome] at *
      try dsimp only [zeroQ] at *
      have hst := heap_alloc_new w (.cells #[.int .i64 kind, .int .i64 session, .string ⟨bucket.toArray⟩, .string ⟨object.toArray⟩, .string ⟨version.toArray⟩, .string ⟨pre.toArray⟩, .string ⟨delim.toArray⟩, .string ⟨body.toArray⟩, .int .i64 ck, .int .i64 re, .int .i64 im, .int .i64 id, .int .i64 n, .slice pa parts.length pc] 30)
      have hsu : Upd Non w (w.alloc (.cells #[.int .i64 kind, .int .i64 session, .string ⟨bucket.toArray⟩, .string ⟨object.toArray⟩, .string ⟨version.toArray⟩, .string ⟨pre.toArray⟩, .string ⟨delim.toArray⟩, .string ⟨body.toArray⟩, .int .i64 ck, .int .i64 re, .int .i64 im, .int .i64 id, .int .i64 n, .slice pa parts.length pc] 30)) := Upd.alloc _ _ _
      have hsz : Hid ((Try.prog.info? 30).map (·.size) = some (#[.int .i64 kind, .int .i64 session, .string ⟨bucket.toArray⟩, .string ⟨object.toArray⟩, .string ⟨version.toArray⟩, .string ⟨pre.toArray⟩, .string ⟨delim.toArray⟩, .string ⟨body.toArray⟩, .int .i64 ck, .int .i64 re, .int .i64 im, .int .i64 id, .int .i64 n, .slice pa parts.length pc] : Array Value).size) := Lib.hid (by kernel_rfl)
      have hP0 := Lib.hid (hP'.out.non hsu)
      have hB1 := Lib.hid (hB.non hsu)
      have gU := Upd.refl Non (w.alloc (.cells #[.int .i64 kind, .int .i64 session, .string ⟨bucket.toArray⟩, .string ⟨object.toArray⟩, .string ⟨version.toArray⟩, .string ⟨pre.toArray⟩, .string ⟨delim.toArray⟩, .string ⟨body.toArray⟩, .int .i64 ck, .int .i64 re, .int .i64 im, .int .i64 id, .int .i64 n, .slice pa parts.length pc] 30))
      have hz := hsu.size
      obtain ⟨N, hN⟩ : ∃ N, w.heap.size = N := ⟨_, rfl⟩
      rw [hN] at hst hz
      obtain ⟨vb1, vb2, rfl⟩ := bytes_form hB
      clear hP' hB
      by_cases hl : parts.length ≤ 1000
      case neg =>
        have hlI : ¬ (parts.length : Int) ≤ 1000 := by omega
        clear hst hP0 hB1 cR1 cC cB
        go_enter Try.func6, Try.ntmps6
        go_wp2_with fail
        refine (cL.out _).mono ?_
        rintro en w2 ⟨rfl, hu⟩
        replace gU := gU.trans hu fun _ _ h => h
        clear hu
        go_wp2_with fail
        go_ret
        exact ⟨rfl, hsu.trans gU fun _ _ h => h⟩
      have hlI : (parts.length : Int) ≤ 1000 := by omega
      go_enter Try.func6, Try.ntmps6
      go_wp2_with ((with_reducible (show wpList _ _ _ (⟨_, Op.load _ _, _, _, _, _⟩ :: _) _ _)); refine loadB_list rfl 30 _ rfl N #[.int .i64 kind, .int .i64 session, .string ⟨bucket.toArray⟩, .string ⟨object.toArray⟩, .string ⟨version.toArray⟩, .string ⟨pre.toArray⟩, .string ⟨delim.toArray⟩, .string ⟨body.toArray⟩, .int .i64 ck, .int .i64 re, .int .i64 im, .int .i64 id, .int .i64 n, .slice pa parts.length pc] _ _ (by first | rfl | (rw [← hN]; rfl)) hst Try.underlying30 rfl hsz.out ?_)
      refine (cB.out _ (hP0.out.non gU) (fun k hk => by have := hpb k hk; have := gU.size; omega)).mono ?_
      rintro en w2 ⟨bv, rfl, hbv, hu, hbk⟩
      replace gU := gU.trans hu fun _ _ h => h
      clear hu cB hbk
      obtain ⟨va0, vc0, rfl⟩ := bytes_form hbv
      clear hbv
      go_wp2_with ((with_reducible (show wpList _ _ _ (⟨_, Op.load _ _, _, _, _, _⟩ :: _) _ _)); refine loadB_if (by first | rfl | kernel_rfl) 30 _ rfl N #[.int .i64 kind, .int .i64 session, .string ⟨bucket.toArray⟩, .string ⟨object.toArray⟩, .string ⟨version.toArray⟩, .string ⟨pre.toArray⟩, .string ⟨delim.toArray⟩, .string ⟨body.toArray⟩, .int .i64 ck, .int .i64 re, .int .i64 im, .int .i64 id, .int .i64 n, .slice pa parts.length pc] _ _ (by first | rfl | (rw [← hN]; rfl)) (gU.heap hst fun h => h) Try.underlying30 rfl hsz.out ?_)
      refine (cC.out _ (hP0.out.non gU)).mono ?_
      rintro en w3 ⟨rfl, hu⟩
      replace gU := gU.trans hu fun _ _ h => h
      clear hu cC hst
      go_wp2_with fail
      refine (cR1.out _ _ (hB1.out.non gU)).mono ?_
      rintro en w7a ⟨pv7, rfl, hp7, hk7, hu⟩
      replace gU := gU.trans hu fun _ _ h => h
      clear hu
      obtain ⟨ua, uc, rfl, -⟩ := has1 hp7
      have hz7 := gU.size
      try dsimp only [zeroQ, List.length_nil] at hp7 ⊢
      have hbx := heap_alloc_new w7a (.cells #[.int .i64 0, .int .i64 0, .string ⟨#[]⟩, .string ⟨#[]⟩, .string ⟨#[]⟩, .string ⟨#[]⟩, .string ⟨#[]⟩, .string ⟨#[]⟩, .int .i64 0, .int .i64 0, .int .i64 0, .int .i64 0, .int .i64 0, .slice none 0 0] 30)
      have hsq7 : Hid ((Try.prog.info? 30).map (·.size) = some (#[.int .i64 0, .int .i64 0, .string ⟨#[]⟩, .string ⟨#[]⟩, .string ⟨#[]⟩, .string ⟨#[]⟩, .string ⟨#[]⟩, .string ⟨#[]⟩, .int .i64 0, .int .i64 0, .int .i64 0, .int .i64 0, .int .i64 0, .slice ua 0 uc] : Array Value).size) := Lib.hid (by kernel_rfl)
      go_wp2_with ((with_reducible (show wpList _ _ _ (⟨_, Op.store _ _ _, _, _, _, _⟩ :: _) _ _)); refine storeB_list rfl 30 _ _ rfl w7a.heap.size #[.int .i64 0, .int .i64 0, .string ⟨#[]⟩, .string ⟨#[]⟩, .string ⟨#[]⟩, .string ⟨#[]⟩, .string ⟨#[]⟩, .string ⟨#[]⟩, .int .i64 0, .int .i64 0, .int .i64 0, .int .i64 0, .int .i64 0, .slice ua 0 uc] _ _ rfl rfl hbx rfl hsq7.out (by simp [Value.oneCell']) ?_)
      intro w7 hb7 hu
      replace gU := (gU.then_alloc _).trans hu fun j hj h => by omega
      replace hp7 := Lib.hid ((hp7.non (Upd.alloc Non w7a (.cells #[.int .i64 0, .int .i64 0, .string ⟨#[]⟩, .string ⟨#[]⟩, .string ⟨#[]⟩, .string ⟨#[]⟩, .string ⟨#[]⟩, .string ⟨#[]⟩, .int .i64 0, .int .i64 0, .int .i64 0, .int .i64 0, .int .i64 0, .slice none 0 0] 30))).upd hu fun k hk e => by have := (hk7 k hk).2; omega)
      have hzz7 := Nat.le_trans (Upd.alloc Non w7a (.cells #[.int .i64 0, .int .i64 0, .string ⟨#[]⟩, .string ⟨#[]⟩, .string ⟨#[]⟩, .string ⟨#[]⟩, .string ⟨#[]⟩, .string ⟨#[]⟩, .int .i64 0, .int .i64 0, .int .i64 0, .int .i64 0, .int .i64 0, .slice none 0 0] 30)).size hu.size
      clear hu hbx
      go_wp2_with ((with_reducible (show wpList _ _ _ (⟨_, Op.load _ _, _, _, _, _⟩ :: _) _ _)); refine loadB_list rfl 30 _ rfl w7a.heap.size #[.int .i64 0, .int .i64 0, .string ⟨#[]⟩, .string ⟨#[]⟩, .string ⟨#[]⟩, .string ⟨#[]⟩, .string ⟨#[]⟩, .string ⟨#[]⟩, .int .i64 0, .int .i64 0, .int .i64 0, .int .i64 0, .int .i64 0, .slice ua 0 uc] _ _ (by first | rfl | (rw [← hN]; rfl)) hb7 Try.underlying30 rfl hsq7.out ?_)
      refine (cZ.out _ _ hp7.out).mono ?_
      rintro en w8 ⟨rfl, hu⟩
      replace gU := gU.trans hu fun _ _ h => h
      clear hu hb7 hp7
      go_wp2_with fail
      refine (cL.out _).mono ?_
      rintro en w9 ⟨rfl, hu⟩
      replace gU := gU.trans hu fun _ _ h => h
      clear hu
      go_wp2_with fail
      go_ret
      exact ⟨rfl, hsu.trans gU fun _ _ h => h⟩
    | some r1 =>
      have cL := Lib.hid lives24
      have hi := Lib.hid (@info_u8)
      have cR1 := Lib.hid (fun v w' h => wRead v s1 w' h hl1)
      unfold ReadQ at cR1
      rw [hT] at cR1
      have cC := Lib.hid (fun w' h => wCheck q pv w' h hs)
      have cB := Lib.hid (fun w' h hb => wBytes2 q pv w' h hs hb hid)
      rw [show ckQ q = 4 from if_neg hg, show bytesB q = [] from if_neg hg] at cB
      rw [show ckQ q = 4 from if_neg hg] at cC
      have hgg := Lib.hid hg
      obtain ⟨hp1, hg1, -⟩ := readQ_some hT
      have cA1 := Lib.hid (fun pv' w' h hlt => wBytes2 r1 pv' w' h (right_smallQ hg1) hlt (readQ_id hT))
      rw [show ckQ r1 = 0 from if_pos hg1, show bytesB r1 = putQ r1 from if_pos hg1, hp1] at cA1
      clear hg1 hp1
      clear hT hs hid hl1 hg
      have hP' := Lib.hid hP
      obtain ⟨pa, pc, rfl, hlc, hcm, -⟩ := has1 hP
      unfold maxLen at hcm
      clear hP
      unfold rqV rqC at *
      obtain ⟨kind, session, bucket, object, version, pre, delim, body, ck, re, im, id, n, parts⟩ := q
      obtain ⟨kindd, sessiond, bucketd, objectd, versiond, pred, delimd, bodyd, ckd, red, imd, idd, nd, partsd⟩ := r1
      dsimp only [Option.getD, codeQ, Option.isSome] at *
      have hst := heap_alloc_new w (.cells #[.int .i64 kind, .int .i64 session, .string ⟨bucket.toArray⟩, .string ⟨object.toArray⟩, .string ⟨version.toArray⟩, .string ⟨pre.toArray⟩, .string ⟨delim.toArray⟩, .string ⟨body.toArray⟩, .int .i64 ck, .int .i64 re, .int .i64 im, .int .i64 id, .int .i64 n, .slice pa parts.length pc] 30)
      have hsu : Upd Non w (w.alloc (.cells #[.int .i64 kind, .int .i64 session, .string ⟨bucket.toArray⟩, .string ⟨object.toArray⟩, .string ⟨version.toArray⟩, .string ⟨pre.toArray⟩, .string ⟨delim.toArray⟩, .string ⟨body.toArray⟩, .int .i64 ck, .int .i64 re, .int .i64 im, .int .i64 id, .int .i64 n, .slice pa parts.length pc] 30)) := Upd.alloc _ _ _
      have hsz : Hid ((Try.prog.info? 30).map (·.size) = some (#[.int .i64 kind, .int .i64 session, .string ⟨bucket.toArray⟩, .string ⟨object.toArray⟩, .string ⟨version.toArray⟩, .string ⟨pre.toArray⟩, .string ⟨delim.toArray⟩, .string ⟨body.toArray⟩, .int .i64 ck, .int .i64 re, .int .i64 im, .int .i64 id, .int .i64 n, .slice pa parts.length pc] : Array Value).size) := Lib.hid (by kernel_rfl)
      have hP0 := Lib.hid (hP'.out.non hsu)
      have hB1 := Lib.hid (hB.non hsu)
      have gU := Upd.refl Non (w.alloc (.cells #[.int .i64 kind, .int .i64 session, .string ⟨bucket.toArray⟩, .string ⟨object.toArray⟩, .string ⟨version.toArray⟩, .string ⟨pre.toArray⟩, .string ⟨delim.toArray⟩, .string ⟨body.toArray⟩, .int .i64 ck, .int .i64 re, .int .i64 im, .int .i64 id, .int .i64 n, .slice pa parts.length pc] 30))
      have hz := hsu.size
      obtain ⟨N, hN⟩ : ∃ N, w.heap.size = N := ⟨_, rfl⟩
      rw [hN] at hst hz
      obtain ⟨vb1, vb2, rfl⟩ := bytes_form hB
      clear hP' hB
      by_cases hl : parts.length ≤ 1000
      case neg =>
        have hlI : ¬ (parts.length : Int) ≤ 1000 := by omega
        clear hst hP0 hB1 cR1 cC cB
        go_enter Try.func6, Try.ntmps6
        go_wp2_with fail
        refine (cL.out _).mono ?_
        rintro en w2 ⟨rfl, hu⟩
        replace gU := gU.trans hu fun _ _ h => h
        clear hu
        go_wp2_with fail
        go_ret
        exact ⟨rfl, hsu.trans gU fun _ _ h => h⟩
      have hlI : (parts.length : Int) ≤ 1000 := by omega
      go_enter Try.func6, Try.ntmps6
      go_wp2_with ((with_reducible (show wpList _ _ _ (⟨_, Op.load _ _, _, _, _, _⟩ :: _) _ _)); refine loadB_list rfl 30 _ rfl N #[.int .i64 kind, .int .i64 session, .string ⟨bucket.toArray⟩, .string ⟨object.toArray⟩, .string ⟨version.toArray⟩, .string ⟨pre.toArray⟩, .string ⟨delim.toArray⟩, .string ⟨body.toArray⟩, .int .i64 ck, .int .i64 re, .int .i64 im, .int .i64 id, .int .i64 n, .slice pa parts.length pc] _ _ (by first | rfl | (rw [← hN]; rfl)) hst Try.underlying30 rfl hsz.out ?_)
      refine (cB.out _ (hP0.out.non gU) (fun k hk => by have := hpb k hk; have := gU.size; omega)).mono ?_
      rintro en w2 ⟨bv, rfl, hbv, hu, hbk⟩
      replace gU := gU.trans hu fun _ _ h => h
      clear hu cB hbk
      obtain ⟨va0, vc0, rfl⟩ := bytes_form hbv
      clear hbv
      go_wp2_with ((with_reducible (show wpList _ _ _ (⟨_, Op.load _ _, _, _, _, _⟩ :: _) _ _)); refine loadB_if (by first | rfl | kernel_rfl) 30 _ rfl N #[.int .i64 kind, .int .i64 session, .string ⟨bucket.toArray⟩, .string ⟨object.toArray⟩, .string ⟨version.toArray⟩, .string ⟨pre.toArray⟩, .string ⟨delim.toArray⟩, .string ⟨body.toArray⟩, .int .i64 ck, .int .i64 re, .int .i64 im, .int .i64 id, .int .i64 n, .slice pa parts.length pc] _ _ (by first | rfl | (rw [← hN]; rfl)) (gU.heap hst fun h => h) Try.underlying30 rfl hsz.out ?_)
      refine (cC.out _ (hP0.out.non gU)).mono ?_
      rintro en w3 ⟨rfl, hu⟩
      replace gU := gU.trans hu fun _ _ h => h
      clear hu cC hst
      go_wp2_with fail
      refine (cR1.out _ _ (hB1.out.non gU)).mono ?_
      rintro en w7a ⟨pv7, rfl, hp7, hk7, hu⟩
      replace gU := gU.trans hu fun _ _ h => h
      clear hu
      obtain ⟨ua, uc, rfl, -⟩ := has1 hp7
      have hz7 := gU.size
      try dsimp only [zeroQ, List.length_nil] at hp7 ⊢
      have hbx := heap_alloc_new w7a (.cells #[.int .i64 0, .int .i64 0, .string ⟨#[]⟩, .string ⟨#[]⟩, .string ⟨#[]⟩, .string ⟨#[]⟩, .string ⟨#[]⟩, .string ⟨#[]⟩, .int .i64 0, .int .i64 0, .int .i64 0, .int .i64 0, .int .i64 0, .slice none 0 0] 30)
      have hsq7 : Hid ((Try.prog.info? 30).map (·.size) = some (#[.int .i64 kindd, .int .i64 sessiond, .string ⟨bucketd.toArray⟩, .string ⟨objectd.toArray⟩, .string ⟨versiond.toArray⟩, .string ⟨pred.toArray⟩, .string ⟨delimd.toArray⟩, .string ⟨bodyd.toArray⟩, .int .i64 ckd, .int .i64 red, .int .i64 imd, .int .i64 idd, .int .i64 nd, .slice ua partsd.length uc] : Array Value).size) := Lib.hid (by kernel_rfl)
      go_wp2_with ((with_reducible (show wpList _ _ _ (⟨_, Op.store _ _ _, _, _, _, _⟩ :: _) _ _)); refine storeB_list rfl 30 _ _ rfl w7a.heap.size #[.int .i64 kindd, .int .i64 sessiond, .string ⟨bucketd.toArray⟩, .string ⟨objectd.toArray⟩, .string ⟨versiond.toArray⟩, .string ⟨pred.toArray⟩, .string ⟨delimd.toArray⟩, .string ⟨bodyd.toArray⟩, .int .i64 ckd, .int .i64 red, .int .i64 imd, .int .i64 idd, .int .i64 nd, .slice ua partsd.length uc] _ _ rfl rfl hbx rfl hsq7.out (by simp [Value.oneCell']) ?_)
      intro w7 hb7 hu
      replace gU := (gU.then_alloc _).trans hu fun j hj h => by omega
      replace hp7 := Lib.hid ((hp7.non (Upd.alloc Non w7a (.cells #[.int .i64 0, .int .i64 0, .string ⟨#[]⟩, .string ⟨#[]⟩, .string ⟨#[]⟩, .string ⟨#[]⟩, .string ⟨#[]⟩, .string ⟨#[]⟩, .int .i64 0, .int .i64 0, .int .i64 0, .int .i64 0, .int .i64 0, .slice none 0 0] 30))).upd hu fun k hk e => by have := (hk7 k hk).2; omega)
      have hzz7 := Nat.le_trans (Upd.alloc Non w7a (.cells #[.int .i64 0, .int .i64 0, .string ⟨#[]⟩, .string ⟨#[]⟩, .string ⟨#[]⟩, .string ⟨#[]⟩, .string ⟨#[]⟩, .string ⟨#[]⟩, .int .i64 0, .int .i64 0, .int .i64 0, .int .i64 0, .int .i64 0, .slice none 0 0] 30)).size hu.size
      clear hu hbx
      go_wp2_with ((with_reducible (show wpList _ _ _ (⟨_, Op.load _ _, _, _, _, _⟩ :: _) _ _)); refine loadB_list rfl 30 _ rfl w7a.heap.size #[.int .i64 kindd, .int .i64 sessiond, .string ⟨bucketd.toArray⟩, .string ⟨objectd.toArray⟩, .string ⟨versiond.toArray⟩, .string ⟨pred.toArray⟩, .string ⟨delimd.toArray⟩, .string ⟨bodyd.toArray⟩, .int .i64 ckd, .int .i64 red, .int .i64 imd, .int .i64 idd, .int .i64 nd, .slice ua partsd.length uc] _ _ (by first | rfl | (rw [← hN]; rfl)) hb7 Try.underlying30 rfl hsq7.out ?_)
      refine (cA1.out _ w7 hp7.out (fun k hk => by have := (hk7 k hk).2; omega)).mono ?_
      rintro en w8 ⟨bv, rfl, hbv, hu, -⟩
      replace gU := gU.trans hu fun _ _ h => h
      have st1 := run_str (P := Try.prog) _ 32 9 5 Try.underlying32 Try.underlying5 Try.underlying9 _ _ hbv
      have st2 := run_str (P := Try.prog) _ 32 9 5 Try.underlying32 Try.underlying5 Try.underlying9 _ _ (hB1.out.non gU)
      obtain ⟨va, vc, rfl⟩ := bytes_form hbv
      clear hu hb7 hp7 hbv
      go_wp2_with fail
      refine (cL.out _).mono ?_
      rintro en w9 ⟨rfl, hu⟩
      replace gU := gU.trans hu fun _ _ h => h
      clear hu
      go_wp2_with fail
      go_ret
      exact ⟨rfl, hsu.trans gU fun _ _ h => h⟩
end Go.Proofs.Ytogekobpjjmnjaa
