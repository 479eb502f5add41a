/- The walk over WireHears (printed by gen/mkwhs.py). -/
import Derived.Test.YtogekobpjjmnjaaGreatMWbC
import Derived.Test.YtogekobpjjmnjaaGreatMWbA
import Derived.Test.YtogekobpjjmnjaaGreatMWhE
namespace Go.Proofs.YtogekobpjjmnjaaGreat
open Go.RowKit Go.Amb
set_option linter.unusedVariables false
set_option linter.unusedSimpArgs false
set_option maxRecDepth 100000
attribute [local go_sem ↓] Go.wp_at_zero Go.wp_at_succ
set_option maxHeartbeats 16000000 in
theorem lWireHears (s : List UInt8) (v : Value) (w : World) (hB : Bytes w v s) (hl : s.length ≤ 140737488355328) : Calls Tryz.prog 3 #[v] w (Ret (.bool true) w) := by
  have hi := Lib.hid (@info_u8)
  have cR := Lib.hid (fun v w h => wReadAnswer v s w h hl)
  have cF := Lib.hid (fun w => tReadAnswer s w hl)
  unfold HeardA at cR cF
  rw [tell_eq] at cR
  obtain ⟨x, hx⟩ : ∃ x, (tellA rTx s).getD zeroA = x := ⟨_, rfl⟩
  obtain ⟨z, hz⟩ : ∃ z, codeA (tellA rTx s) = z := ⟨_, rfl⟩
  rw [hx, hz] at cR cF
  clear hx hz
  have cS := Lib.hid (fun S T w h1 h2 => sAnswer x S T w h1 h2)
  have cL := Lib.hid lives24
  unfold rsV rsC at cR cF cS
  have hB' := Lib.hid hB
  obtain ⟨va, vc, rfl⟩ := bytes_form hB
  clear hB
  go_enter Tryz.func3, Tryz.ntmps3
  go_wp2_with (at_builtin; go_must (refine wpList_app rfl _ _ 22 22 rfl w.heap.size 5 (.int .u8 0) 1 1 Tryz.underlying22 hi.out rfl _ 0 _ rfl (own_lit0 w w.heap.size 5 (Nat.le_refl _)) (.slice va s.length vc) s.length (bc s) rfl (Src.ofHas Tryz.underlying22 (hB'.out.upd (Upd.alloc Non w _) fun _ _ h => h) (bc_one s)) (by unfold maxLen; omega) (by omega) (by simp) ?_))
  intro v1 w1 ho1 hu1 hf1
  replace hu1 : Upd (At (.slice (some ⟨w.heap.size, 0, none⟩) 0 0)) _ w1 := hu1
  have ho : Go.Amb.Own w1 w.heap.size 5 v1 s := by have := own_app (l := []) ho1; simpa using this
  have hU := (Upd.alloc Non w _).trans hu1 fun j hj h => by simp [At, Value.ownBlock] at h; omega
  clear ho1 hu1 hf1
  go_wp2_with fail
  refine (cR.out _ _ ho.bytes).mono ?_
  rintro en w2 ⟨⟨an, aln, alp, al, au, ap⟩, rfl, hA, hAk, hu2⟩
  dsimp only at hA hAk ⊢
  have hU2 := hU.trans hu2 fun _ _ h => h
  clear hU hu2 ho cR
  have h24a : Hid ((#[.int .i64 x.err, .int .i64 x.id, .int .i64 x.time, .string ⟨x.text.toArray⟩, .int .i64 x.re, .int .i64 x.im, .string ⟨x.version.toArray⟩, .int .i64 x.head.size, .int .i64 x.head.re, .int .i64 x.head.im, .bool x.head.gone, .bool x.head.null, .string ⟨x.body.toArray⟩, an, aln, alp, .string ⟨x.next.toArray⟩, .bool x.more, al, .string ⟨x.lobject.toArray⟩, .int .i64 x.lid, .bool x.lmore, au, ap] : Array Value).all (·.oneCell') = true) := Lib.hid (by
    obtain ⟨_, b1, b2, e1, -⟩ := hA.n
    obtain ⟨_, b3, b4, e2, -⟩ := hA.ln
    obtain ⟨_, b5, b6, e3, -⟩ := hA.lp
    obtain ⟨_, b7, b8, e4, -⟩ := hA.l
    obtain ⟨_, b9, b10, e5, -⟩ := hA.u
    obtain ⟨_, b11, b12, e6, -⟩ := hA.p
    dsimp only at e1 e2 e3 e4 e5 e6
    subst e1 e2 e3 e4 e5 e6
    simp [Value.oneCell'])
  have hsza : Hid ((Tryz.prog.info? 39).map (·.size) = some (#[.int .i64 x.err, .int .i64 x.id, .int .i64 x.time, .string ⟨x.text.toArray⟩, .int .i64 x.re, .int .i64 x.im, .string ⟨x.version.toArray⟩, .int .i64 x.head.size, .int .i64 x.head.re, .int .i64 x.head.im, .bool x.head.gone, .bool x.head.null, .string ⟨x.body.toArray⟩, an, aln, alp, .string ⟨x.next.toArray⟩, .bool x.more, al, .string ⟨x.lobject.toArray⟩, .int .i64 x.lid, .bool x.lmore, au, ap] : Array Value).size) := Lib.hid (by kernel_rfl)
  have hbx := heap_alloc_new w2 (.cells #[.int .i64 0, .int .i64 0, .int .i64 0, .string ⟨#[]⟩, .int .i64 0, .int .i64 0, .string ⟨#[]⟩, .int .i64 0, .int .i64 0, .int .i64 0, .bool false, .bool false, .string ⟨#[]⟩, .slice none 0 0, .slice none 0 0, .slice none 0 0, .string ⟨#[]⟩, .bool false, .slice none 0 0, .string ⟨#[]⟩, .int .i64 0, .bool false, .slice none 0 0, .slice none 0 0] 39)
  go_wp2_with ((with_reducible (show wpList _ _ _ (⟨_, Op.store _ _ _, _, _, _, _⟩ :: _) _ _)); refine storeB_list rfl 39 _ _ rfl w2.heap.size #[.int .i64 x.err, .int .i64 x.id, .int .i64 x.time, .string ⟨x.text.toArray⟩, .int .i64 x.re, .int .i64 x.im, .string ⟨x.version.toArray⟩, .int .i64 x.head.size, .int .i64 x.head.re, .int .i64 x.head.im, .bool x.head.gone, .bool x.head.null, .string ⟨x.body.toArray⟩, an, aln, alp, .string ⟨x.next.toArray⟩, .bool x.more, al, .string ⟨x.lobject.toArray⟩, .int .i64 x.lid, .bool x.lmore, au, ap] _ _ rfl rfl hbx rfl hsza.out h24a.out ?_)
  intro w3 hb3 hu3
  have hz2 := hU2.size
  have hU3 := (hU2.then_alloc _).trans hu3 fun j hj h => by omega
  have hA3 := Lib.hid ((hA.non (Upd.alloc Non _ (.cells #[.int .i64 0, .int .i64 0, .int .i64 0, .string ⟨#[]⟩, .int .i64 0, .int .i64 0, .string ⟨#[]⟩, .int .i64 0, .int .i64 0, .int .i64 0, .bool false, .bool false, .string ⟨#[]⟩, .slice none 0 0, .slice none 0 0, .slice none 0 0, .string ⟨#[]⟩, .bool false, .slice none 0 0, .string ⟨#[]⟩, .int .i64 0, .bool false, .slice none 0 0, .slice none 0 0] 39))).upd hu3 fun k hk e => by have := (hAk k hk).2; omega)
  have hstr := run_str (P := Tryz.prog) _ 22 9 5 Tryz.underlying22 Tryz.underlying5 Tryz.underlying9 _ _ (hB'.out.upd hU3 fun _ _ h => h)
  replace hb3 := Lib.hid hb3
  clear hu3 hbx hA hU2 hi
  go_wp2_with fail
  refine (cF.out _).mono ?_
  rintro en w4 ⟨⟨cn, cln, clp, cl, cu, cp⟩, rfl, hC, hCk, hu4⟩
  dsimp only at hC hCk ⊢
  have hb5 := Lib.hid (hu4.heap hb3.out fun h => h)
  have hA5 := Lib.hid (hA3.out.non hu4)
  have hU4 := hU3.trans hu4 fun _ _ h => h
  have hl3 := heap_lt hb3.out
  have hz4 := hu4.size
  clear hstr cF hu4 hb3 hA3 hU3
  have h24c : Hid ((#[.int .i64 x.err, .int .i64 x.id, .int .i64 x.time, .string ⟨x.text.toArray⟩, .int .i64 x.re, .int .i64 x.im, .string ⟨x.version.toArray⟩, .int .i64 x.head.size, .int .i64 x.head.re, .int .i64 x.head.im, .bool x.head.gone, .bool x.head.null, .string ⟨x.body.toArray⟩, cn, cln, clp, .string ⟨x.next.toArray⟩, .bool x.more, cl, .string ⟨x.lobject.toArray⟩, .int .i64 x.lid, .bool x.lmore, cu, cp] : Array Value).all (·.oneCell') = true) := Lib.hid (by
    obtain ⟨_, b1, b2, e1, -⟩ := hC.n
    obtain ⟨_, b3, b4, e2, -⟩ := hC.ln
    obtain ⟨_, b5, b6, e3, -⟩ := hC.lp
    obtain ⟨_, b7, b8, e4, -⟩ := hC.l
    obtain ⟨_, b9, b10, e5, -⟩ := hC.u
    obtain ⟨_, b11, b12, e6, -⟩ := hC.p
    dsimp only at e1 e2 e3 e4 e5 e6
    subst e1 e2 e3 e4 e5 e6
    simp [Value.oneCell'])
  have hszc : Hid ((Tryz.prog.info? 39).map (·.size) = some (#[.int .i64 x.err, .int .i64 x.id, .int .i64 x.time, .string ⟨x.text.toArray⟩, .int .i64 x.re, .int .i64 x.im, .string ⟨x.version.toArray⟩, .int .i64 x.head.size, .int .i64 x.head.re, .int .i64 x.head.im, .bool x.head.gone, .bool x.head.null, .string ⟨x.body.toArray⟩, cn, cln, clp, .string ⟨x.next.toArray⟩, .bool x.more, cl, .string ⟨x.lobject.toArray⟩, .int .i64 x.lid, .bool x.lmore, cu, cp] : Array Value).size) := Lib.hid (by kernel_rfl)
  have hbx := heap_alloc_new w4 (.cells #[.int .i64 0, .int .i64 0, .int .i64 0, .string ⟨#[]⟩, .int .i64 0, .int .i64 0, .string ⟨#[]⟩, .int .i64 0, .int .i64 0, .int .i64 0, .bool false, .bool false, .string ⟨#[]⟩, .slice none 0 0, .slice none 0 0, .slice none 0 0, .string ⟨#[]⟩, .bool false, .slice none 0 0, .string ⟨#[]⟩, .int .i64 0, .bool false, .slice none 0 0, .slice none 0 0] 39)
  go_wp2_with ((with_reducible (show wpList _ _ _ (⟨_, Op.store _ _ _, _, _, _, _⟩ :: _) _ _)); refine storeB_list rfl 39 _ _ rfl w4.heap.size #[.int .i64 x.err, .int .i64 x.id, .int .i64 x.time, .string ⟨x.text.toArray⟩, .int .i64 x.re, .int .i64 x.im, .string ⟨x.version.toArray⟩, .int .i64 x.head.size, .int .i64 x.head.re, .int .i64 x.head.im, .bool x.head.gone, .bool x.head.null, .string ⟨x.body.toArray⟩, cn, cln, clp, .string ⟨x.next.toArray⟩, .bool x.more, cl, .string ⟨x.lobject.toArray⟩, .int .i64 x.lid, .bool x.lmore, cu, cp] _ _ rfl rfl hbx rfl hszc.out h24c.out ?_)
  intro w6 hb6 hu6
  have hb7 := Lib.hid (hu6.heap ((Upd.alloc Non w4 (.cells #[.int .i64 0, .int .i64 0, .int .i64 0, .string ⟨#[]⟩, .int .i64 0, .int .i64 0, .string ⟨#[]⟩, .int .i64 0, .int .i64 0, .int .i64 0, .bool false, .bool false, .string ⟨#[]⟩, .slice none 0 0, .slice none 0 0, .slice none 0 0, .string ⟨#[]⟩, .bool false, .slice none 0 0, .string ⟨#[]⟩, .int .i64 0, .bool false, .slice none 0 0, .slice none 0 0] 39)).heap hb5.out fun h => h) (by omega))
  have hU6 := (hU4.then_alloc _).trans hu6 fun j hj h => by have := hU4.size; omega
  have hA6 := Lib.hid ((hA5.out.non (Upd.alloc Non _ (.cells #[.int .i64 0, .int .i64 0, .int .i64 0, .string ⟨#[]⟩, .int .i64 0, .int .i64 0, .string ⟨#[]⟩, .int .i64 0, .int .i64 0, .int .i64 0, .bool false, .bool false, .string ⟨#[]⟩, .slice none 0 0, .slice none 0 0, .slice none 0 0, .string ⟨#[]⟩, .bool false, .slice none 0 0, .string ⟨#[]⟩, .int .i64 0, .bool false, .slice none 0 0, .slice none 0 0] 39))).upd hu6 fun k hk e => by have := (hAk k hk).2; omega)
  have hC6 := Lib.hid ((hC.non (Upd.alloc Non _ (.cells #[.int .i64 0, .int .i64 0, .int .i64 0, .string ⟨#[]⟩, .int .i64 0, .int .i64 0, .string ⟨#[]⟩, .int .i64 0, .int .i64 0, .int .i64 0, .bool false, .bool false, .string ⟨#[]⟩, .slice none 0 0, .slice none 0 0, .slice none 0 0, .string ⟨#[]⟩, .bool false, .slice none 0 0, .string ⟨#[]⟩, .int .i64 0, .bool false, .slice none 0 0, .slice none 0 0] 39))).upd hu6 fun k hk e => by have := (hCk k hk).2; omega)
  replace hb6 := Lib.hid hb6
  clear hu6 hbx hA5 hC hU4 hb5
  go_wp2_with (first | ((with_reducible (show wpList _ _ _ (⟨_, Op.load _ _, _, _, _, _⟩ :: _) _ _)); refine loadB_list rfl 39 _ rfl w2.heap.size #[.int .i64 x.err, .int .i64 x.id, .int .i64 x.time, .string ⟨x.text.toArray⟩, .int .i64 x.re, .int .i64 x.im, .string ⟨x.version.toArray⟩, .int .i64 x.head.size, .int .i64 x.head.re, .int .i64 x.head.im, .bool x.head.gone, .bool x.head.null, .string ⟨x.body.toArray⟩, an, aln, alp, .string ⟨x.next.toArray⟩, .bool x.more, al, .string ⟨x.lobject.toArray⟩, .int .i64 x.lid, .bool x.lmore, au, ap] _ _ rfl hb7.out Tryz.underlying39 rfl hsza.out ?_) | ((with_reducible (show wpList _ _ _ (⟨_, Op.load _ _, _, _, _, _⟩ :: _) _ _)); refine loadB_list rfl 39 _ rfl w4.heap.size #[.int .i64 x.err, .int .i64 x.id, .int .i64 x.time, .string ⟨x.text.toArray⟩, .int .i64 x.re, .int .i64 x.im, .string ⟨x.version.toArray⟩, .int .i64 x.head.size, .int .i64 x.head.re, .int .i64 x.head.im, .bool x.head.gone, .bool x.head.null, .string ⟨x.body.toArray⟩, cn, cln, clp, .string ⟨x.next.toArray⟩, .bool x.more, cl, .string ⟨x.lobject.toArray⟩, .int .i64 x.lid, .bool x.lmore, cu, cp] _ _ rfl hb6.out Tryz.underlying39 rfl hszc.out ?_))
  refine (cS.out ⟨an, aln, alp, al, au, ap⟩ ⟨cn, cln, clp, cl, cu, cp⟩ _ hA6.out hC6.out).mono ?_
  rintro en w8 ⟨rfl, hu8⟩
  have hU8 := hU6.trans hu8 fun _ _ h => h
  clear hA6 hC6 hb6 hb7 hu8 hU6 cS
  go_wp2_with fail
  refine (cL.out _).mono ?_
  rintro en w9 ⟨rfl, hu9⟩
  have hU9 := hU8.trans hu9 fun _ _ h => h
  clear hu9 hU8
  go_wp2_with fail
  go_ret
  exact ⟨rfl, hU9⟩
end Go.Proofs.YtogekobpjjmnjaaGreat
