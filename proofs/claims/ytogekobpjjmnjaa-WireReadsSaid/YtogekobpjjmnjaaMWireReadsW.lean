/- The walk over WireReads. -/
import Derived.Test.YtogekobpjjmnjaaMWbC
import Derived.Test.YtogekobpjjmnjaaMWbA
import Derived.Test.YtogekobpjjmnjaaMWrAb
namespace Go.Proofs.Ytogekobpjjmnjaa
open Go.RowKit Go.Amb
set_option linter.unusedVariables false
set_option linter.unusedSimpArgs false
set_option maxRecDepth 100000
attribute [local go_sem ↓] Go.wp_at_zero Go.wp_at_succ
set_option maxHeartbeats 4000000 in
theorem lWireReads (s : List UInt8) (v : Value) (w : World) (hB : Bytes w v s) (hl : s.length ≤ 140737488355328) : Calls Try.prog 4 #[v] w (Ret (.bool true) w) := by
  have hi := Lib.hid (@info_u8)
  have cR := Lib.hid (fun v w h => wRead v s w h hl)
  have cF := Lib.hid (fun w => rRead s w hl)
  unfold ReadQ at cR
  unfold ReadR at cF
  rw [readR_eq] at cF
  obtain ⟨x, hx⟩ : ∃ x, (readQ s).getD zeroQ = x := ⟨_, rfl⟩
  obtain ⟨z, hz⟩ : ∃ z, codeQ (readQ s) = z := ⟨_, rfl⟩
  rw [hx, hz] at cR cF
  clear hx hz
  have cS := Lib.hid (fun va vb w h1 h2 => sReq x va vb w h1 h2)
  have cL := Lib.hid lives24
  obtain ⟨kind, session, bucket, object, version, pre, delim, body, ck, re, im, id, n, parts⟩ := x
  unfold rqV rqC at *
  dsimp only at *
  have hB' := Lib.hid hB
  obtain ⟨va, vc, rfl⟩ := bytes_form hB
  clear hB
  go_enter Try.func4, Try.ntmps4
  go_wp2_with (at_builtin; go_must (refine wpList_app rfl _ _ 32 32 rfl w.heap.size 5 (.int .u8 0) 1 1 Try.underlying32 hi.out rfl _ 0 _ rfl (own_lit0 w w.heap.size 5 (Nat.le_refl _)) (.slice va s.length vc) s.length (bc s) rfl (Src.ofHas Try.underlying32 (hB'.out.upd (Upd.alloc Non w _) fun _ _ h => h) (bc_one s)) (by unfold maxLen; omega) (by omega) (by simp) ?_))
  intro v1 w1 ho1 hu1 hf1
  replace hu1 : Upd (At (.slice (some ⟨w.heap.size, 0, none⟩) 0 0)) _ w1 := hu1
  have ho : Go.Amb.Own w1 w.heap.size 5 v1 s := by have := own_app (l := []) ho1; simpa using this
  have hU := (Upd.alloc Non w _).trans hu1 fun j hj h => by simp [At, Value.ownBlock] at h; omega
  clear ho1 hu1 hf1
  go_wp2_with fail
  refine (cR.out _ _ ho.bytes).mono ?_
  rintro en w2 ⟨pv, rfl, hp, hb2, hu2⟩
  have hU2 := hU.trans hu2 fun _ _ h => h
  clear hU hu2 ho cR
  obtain ⟨pa, pc, rfl, -⟩ := has1 hp
  have hbx := heap_alloc_new w2 (.cells #[.int .i64 0, .int .i64 0, .string ⟨#[]⟩, .string ⟨#[]⟩, .string ⟨#[]⟩, .string ⟨#[]⟩, .string ⟨#[]⟩, .string ⟨#[]⟩, .int .i64 0, .int .i64 0, .int .i64 0, .int .i64 0, .int .i64 0, .slice none 0 0] 30)
  have hsq : Hid ((Try.prog.info? 30).map (·.size) = some (#[.int .i64 kind, .int .i64 session, .string ⟨bucket.toArray⟩, .string ⟨object.toArray⟩, .string ⟨version.toArray⟩, .string ⟨pre.toArray⟩, .string ⟨delim.toArray⟩, .string ⟨body.toArray⟩, .int .i64 ck, .int .i64 re, .int .i64 im, .int .i64 id, .int .i64 n, .slice pa parts.length pc] : Array Value).size) := Lib.hid (by kernel_rfl)
  go_wp2_with ((with_reducible (show wpList _ _ _ (⟨_, Op.store _ _ _, _, _, _, _⟩ :: _) _ _)); refine storeB_list rfl 30 _ _ rfl w2.heap.size #[.int .i64 kind, .int .i64 session, .string ⟨bucket.toArray⟩, .string ⟨object.toArray⟩, .string ⟨version.toArray⟩, .string ⟨pre.toArray⟩, .string ⟨delim.toArray⟩, .string ⟨body.toArray⟩, .int .i64 ck, .int .i64 re, .int .i64 im, .int .i64 id, .int .i64 n, .slice pa parts.length pc] _ _ rfl rfl hbx rfl hsq.out (by simp [Value.oneCell']) ?_)
  intro w3 hb3 hu3
  have hz2 := hU2.size
  have hU3 := (hU2.then_alloc _).trans hu3 fun j hj h => by omega
  have hp3 := (hp.non (Upd.alloc Non _ _)).upd hu3 fun k hk e => by have := (hb2 k hk).2; omega
  have hstr := run_str (P := Try.prog) _ 32 9 5 Try.underlying32 Try.underlying5 Try.underlying9 _ _ (hB'.out.upd hU3 fun _ _ h => h)
  clear hu3 hbx hp hU2 hi
  go_wp2_with fail
  refine (cF.out _).mono ?_
  rintro en w4 ⟨pv2, rfl, hp4, hb4, hu4⟩
  obtain ⟨pa2, pc2, rfl, -⟩ := has1 hp4
  have hb5 := hu4.heap hb3 fun h => h
  have hp5 := hp3.non hu4
  have hU4 := hU3.trans hu4 fun _ _ h => h
  have hl3 := heap_lt hb3
  have hz4 := hu4.size
  clear hstr cF hu4 hb3 hp3 hU3
  have hbx := heap_alloc_new w4 (.cells #[.int .i64 0, .int .i64 0, .string ⟨#[]⟩, .string ⟨#[]⟩, .string ⟨#[]⟩, .string ⟨#[]⟩, .string ⟨#[]⟩, .string ⟨#[]⟩, .int .i64 0, .int .i64 0, .int .i64 0, .int .i64 0, .int .i64 0, .slice none 0 0] 30)
  have hsq2 : Hid ((Try.prog.info? 30).map (·.size) = some (#[.int .i64 kind, .int .i64 session, .string ⟨bucket.toArray⟩, .string ⟨object.toArray⟩, .string ⟨version.toArray⟩, .string ⟨pre.toArray⟩, .string ⟨delim.toArray⟩, .string ⟨body.toArray⟩, .int .i64 ck, .int .i64 re, .int .i64 im, .int .i64 id, .int .i64 n, .slice pa2 parts.length pc2] : Array Value).size) := Lib.hid (by kernel_rfl)
  go_wp2_with ((with_reducible (show wpList _ _ _ (⟨_, Op.store _ _ _, _, _, _, _⟩ :: _) _ _)); refine storeB_list rfl 30 _ _ rfl w4.heap.size #[.int .i64 kind, .int .i64 session, .string ⟨bucket.toArray⟩, .string ⟨object.toArray⟩, .string ⟨version.toArray⟩, .string ⟨pre.toArray⟩, .string ⟨delim.toArray⟩, .string ⟨body.toArray⟩, .int .i64 ck, .int .i64 re, .int .i64 im, .int .i64 id, .int .i64 n, .slice pa2 parts.length pc2] _ _ rfl rfl hbx rfl hsq2.out (by simp [Value.oneCell']) ?_)
  intro w6 hb6 hu6
  have hb7 := hu6.heap ((Upd.alloc Non w4 _).heap hb5 fun h => h) (by omega)
  have hU6 := (hU4.then_alloc _).trans hu6 fun j hj h => by have := hU4.size; omega
  have hp6 := (hp5.non (Upd.alloc Non _ _)).upd hu6 fun k hk e => by have := (hb2 k hk).2; omega
  have hp7 := (hp4.non (Upd.alloc Non _ _)).upd hu6 fun k hk e => by have := (hb4 k hk).2; omega
  clear hu6 hbx hp5 hp4 hU4 hb5
  go_wp2_with (first | ((with_reducible (show wpList _ _ _ (⟨_, Op.load _ _, _, _, _, _⟩ :: _) _ _)); refine loadB_list rfl 30 _ rfl w2.heap.size #[.int .i64 kind, .int .i64 session, .string ⟨bucket.toArray⟩, .string ⟨object.toArray⟩, .string ⟨version.toArray⟩, .string ⟨pre.toArray⟩, .string ⟨delim.toArray⟩, .string ⟨body.toArray⟩, .int .i64 ck, .int .i64 re, .int .i64 im, .int .i64 id, .int .i64 n, .slice pa parts.length pc] _ _ rfl hb7 Try.underlying30 rfl hsq.out ?_) | ((with_reducible (show wpList _ _ _ (⟨_, Op.load _ _, _, _, _, _⟩ :: _) _ _)); refine loadB_list rfl 30 _ rfl w4.heap.size #[.int .i64 kind, .int .i64 session, .string ⟨bucket.toArray⟩, .string ⟨object.toArray⟩, .string ⟨version.toArray⟩, .string ⟨pre.toArray⟩, .string ⟨delim.toArray⟩, .string ⟨body.toArray⟩, .int .i64 ck, .int .i64 re, .int .i64 im, .int .i64 id, .int .i64 n, .slice pa2 parts.length pc2] _ _ rfl hb6 Try.underlying30 rfl hsq2.out ?_))
  refine (cS.out _ _ _ hp6 hp7).mono ?_
  rintro en w8 ⟨rfl, hu8⟩
  have hU8 := hU6.trans hu8 fun _ _ h => h
  clear hp6 hp7 hb6 hb7 hu8 hU6
  go_wp2_with fail
  refine (cL.out _).mono ?_
  rintro en w9 ⟨rfl, hu9⟩
  have hU9 := hU8.trans hu9 fun _ _ h => h
  clear hu9 hU8
  go_wp2_with fail
  go_ret
  exact ⟨rfl, hU9⟩
end Go.Proofs.Ytogekobpjjmnjaa
