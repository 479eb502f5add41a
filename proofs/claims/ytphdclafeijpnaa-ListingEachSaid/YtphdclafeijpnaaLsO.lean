/- The walks over ListingNames and ListingPages. -/
import Derived.Test.YtphdclafeijpnaaLsN
namespace Go.Proofs.Ytphdclafeijpnaa
open Go.RowKit Go.Amb Go.Shelf
set_option linter.unusedVariables false
set_option linter.unusedSimpArgs false
set_option maxRecDepth 100000
set_option maxHeartbeats 2000000 in
theorem lListingNames (s p d a : Str) (m : Int) (w : World) (hs : s.length ≤ 140737488355328) (hm : -9223372036854775808 ≤ m) : Calls Try.prog 6 #[txtV s, txtV p, txtV d, txtV a, .int .i64 m] w (Ret (.bool true) w) := by
  have c1 := Lib.hid (fun w => lBucket s w hs)
  have c2 := Lib.hid (fun w => rBucket s w hs)
  have c3 := Lib.hid (fun w => lObject s w hs)
  have c4 := Lib.hid (fun w => rObject s w hs)
  have c5 := Lib.hid (fun w => lCheck p d a m w hm)
  have c6 := Lib.hid (fun w => rCheck p d a m w hm)
  clear hs hm
  generalize bk s = e1 at *
  generalize obj s = e2 at *
  generalize ck p d a m = e3 at *
  unfold txtV at *
  have q1 : (e1 == e1) = true := by simp
  have q2 : (e2 == e2) = true := by simp
  have q3 : (e3 == e3) = true := by simp
  go_enter Try.func6, Try.ntmps6
  go_wp2_with fail
  refine (c1.out _).mono ?_
  rintro e w1 ⟨rfl, u1⟩
  simp only []
  go_wp2_with fail
  refine (c2.out _).mono ?_
  rintro e w2 ⟨rfl, u2⟩
  have v2 := Lib.hid (u1.trans u2 fun _ _ h => h)
  clear u1 u2 c1 c2
  simp only []
  go_wp2_with fail
  refine (c3.out _).mono ?_
  rintro e w3 ⟨rfl, u3⟩
  simp only []
  go_wp2_with fail
  refine (c4.out _).mono ?_
  rintro e w4 ⟨rfl, u4⟩
  have v4 := Lib.hid ((v2.out.trans u3 fun _ _ h => h).trans u4 fun _ _ h => h)
  clear u3 u4 v2 c3 c4
  simp only []
  go_wp2_with fail
  refine (c5.out _).mono ?_
  rintro e w5 ⟨rfl, u5⟩
  simp only []
  go_wp2_with fail
  refine (c6.out _).mono ?_
  rintro e w6 ⟨rfl, u6⟩
  have v6 := Lib.hid ((v4.out.trans u5 fun _ _ h => h).trans u6 fun _ _ h => h)
  clear u5 u6 v4 c5 c6
  simp only []
  go_wp2_with fail
  refine (lives20 _).mono ?_
  rintro e w7 ⟨rfl, u7⟩
  have v7 := v6.out.trans u7 fun _ _ h => h
  simp only []
  go_wp2_with fail
  go_ret
  exact ⟨rfl, v7⟩
set_option maxHeartbeats 4000000 in
theorem lListingPages (nv : Value) (l : List Str) (p d a : Str) (m : Int) (w : World) (hT : Txts w nv l) (hs : ∀ s ∈ l, s.length ≤ 140737488355328) (hm : -9223372036854775808 ≤ m) : Calls Try.prog 3 #[nv, txtV p, txtV d, txtV a, .int .i64 m] w (Ret (.bool true) w) := by
  have cF := Lib.hid (fun w' (hu : Upd Non w w') => lFew20 nv l w' (hT.non hu))
  obtain ⟨va, vc, rfl, -⟩ := txts_at hT
  obtain ⟨n, hn⟩ : ∃ n, l.length = n := ⟨_, rfl⟩
  rw [hn] at cF ⊢
  have hT' : Hid (Txts w (.slice va n vc) l) := Lib.hid (by rw [← hn]; exact hT)
  clear hT
  by_cases h500 : n ≤ 500
  · rw [decide_eq_true h500] at cF
    have hinf := Lib.hid (show (Try.prog.info? 9).map (fun i => (i.zero, i.size, i.bytes)) = some (some (.string ⟨#[]⟩), 1, 16) from rfl)
    have c1 := Lib.hid (fun w' (v : Value) (hT : Txts w' v l) (hl : ∀ k, At v k → k < w'.heap.size) => lPage v l p d a m w' hT hl (by omega) hs hm)
    have c2 := Lib.hid (fun w' (v : Value) (hT : Txts w' v l) => rPage v l p d a m w' hT (by omega) hs hm)
    generalize page p d a m l = pg at *
    generalize pageE p d a m l = er at *
    unfold txtV at *
    replace hs := Lib.hid hs
    go_enter Try.func3, Try.ntmps3
    go_wp2_with fail
    refine (cF.out w (Upd.refl _ _)).mono ?_
    rintro e w1 ⟨rfl, u1⟩
    replace u1 := Lib.hid u1
    clear cF
    simp only []
    have hown : (w1.alloc (.cells #[] 9)).ownsRow w1.heap.size 9 1 (.slice (some ⟨w1.heap.size, 0, none⟩) 0 0) 0 [] := World.ownsRow_lit (size := 1) w1 #[] 0 (Nat.le_refl _) (Nat.zero_le _) rfl
    have hA1 := Upd.alloc Non w1 (.cells #[] 9)
    have hsrc := Src.ofHas (P := Try.prog) (tx := 22) Try.underlying22 ((hT'.out.non u1.out).non hA1) (txt_one l)
    rw [hn] at hsrc
    go_wp2_with (at_builtin; go_must (refine wpList_app rfl _ _ 22 22 rfl w1.heap.size 9 (.string ⟨#[]⟩) 1 16 Try.underlying22 hinf.out rfl _ _ _ rfl hown _ n (l.map txtV) rfl hsrc (by unfold maxLen; omega) (by omega) (by simp) ?_))
    intro v2 w2 ho2 hu2 hf2
    have hU2 := ((u1.out.trans hA1 fun _ _ h => h).trans hu2 fun k hk h => absurd h (by simp [At, Value.ownBlock]; have := u1.out.size; omega))
    have hT2 : Txts w2 v2 l := by have := has_of_owns ho2; unfold Txts; rw [hn]; exact this
    have hl2 : ∀ k, At v2 k → k < w2.heap.size := fun k hk => own_lt ho2 hk
    obtain ⟨_, a2, d2, rfl, -⟩ := id (has_of_owns ho2)
    replace hU2 := Lib.hid hU2
    have c1' := Lib.hid (c1.out w2 _ hT2 hl2)
    clear hown hA1 hsrc ho2 hu2 hf2 hT2 hl2 c1 u1
    go_wp2_with fail
    refine c1'.out.mono ?_
    rintro e w3 ⟨v3, rfl, ⟨nv3, pv3, rfl, hn3, hp3⟩, u3, -⟩
    obtain ⟨_, a3, d3, rfl, -⟩ := id hn3
    obtain ⟨_, a4, d4, rfl, -⟩ := id hp3
    obtain ⟨m3, hm3⟩ : ∃ x, pg.n.length = x := ⟨_, rfl⟩
    obtain ⟨m4, hm4⟩ : ∃ x, pg.p.length = x := ⟨_, rfl⟩
    rw [hm3, hm4]
    have hn3' : Txts w3 (.slice a3 m3 d3) pg.n := by rw [← hm3]; exact hn3
    have hp3' : Txts w3 (.slice a4 m4 d4) pg.p := by rw [← hm4]; exact hp3
    have hU3 := hU2.out.trans u3 fun _ _ h => h
    have hp := heap_alloc_new w3 (.cells #[.slice a3 m3 d3, .slice a4 m4 d4, .string ⟨pg.x.toArray⟩, .bool pg.m] 26)
    have hA3 := Upd.alloc Non w3 (.cells #[.slice a3 m3 d3, .slice a4 m4 d4, .string ⟨pg.x.toArray⟩, .bool pg.m] 26)
    have hP3 : Hid (PgAt (w3.alloc (.cells #[.slice a3 m3 d3, .slice a4 m4 d4, .string ⟨pg.x.toArray⟩, .bool pg.m] 26)) (.agg #[.slice a3 m3 d3, .slice a4 m4 d4, .string ⟨pg.x.toArray⟩, .bool pg.m]) pg) := Lib.hid ⟨_, _, rfl, hn3'.non hA3, hp3'.non hA3⟩
    have hU4 := Lib.hid (hU3.trans hA3 fun _ _ h => h)
    replace hp := Lib.hid hp
    clear hn3 hp3 hn3' hp3' hA3 hU3 u3 c1' hm3 hm4 hU2
    simp only []
    unfold txtV
    go_wp2_with fail
    refine (c2.out _ _ (by have := hT'.out.non hU4.out; exact this)).mono ?_
    rintro e w5 ⟨v5, rfl, ⟨nv5, pv5, rfl, hn5, hp5⟩, u5⟩
    obtain ⟨_, a5, d5, rfl, -⟩ := id hn5
    obtain ⟨_, a6, d6, rfl, -⟩ := id hp5
    obtain ⟨m5, hm5⟩ : ∃ x, pg.n.length = x := ⟨_, rfl⟩
    obtain ⟨m6, hm6⟩ : ∃ x, pg.p.length = x := ⟨_, rfl⟩
    rw [hm5, hm6]
    have hn5' : Txts w5 (.slice a5 m5 d5) pg.n := by rw [← hm5]; exact hn5
    have hp5' : Txts w5 (.slice a6 m6 d6) pg.p := by rw [← hm6]; exact hp5
    have hA5 := Upd.alloc Non w5 (.cells #[.slice a5 m5 d5, .slice a6 m6 d6, .string ⟨pg.x.toArray⟩, .bool pg.m] 26)
    have hq := heap_alloc_new w5 (.cells #[.slice a5 m5 d5, .slice a6 m6 d6, .string ⟨pg.x.toArray⟩, .bool pg.m] 26)
    have hP5 : Hid (PgAt (w5.alloc (.cells #[.slice a5 m5 d5, .slice a6 m6 d6, .string ⟨pg.x.toArray⟩, .bool pg.m] 26)) (.agg #[.slice a5 m5 d5, .slice a6 m6 d6, .string ⟨pg.x.toArray⟩, .bool pg.m]) pg) := Lib.hid ⟨_, _, rfl, hn5'.non hA5, hp5'.non hA5⟩
    have hP3' := Lib.hid ((hP3.out.non u5).non hA5)
    have hp' := Upd.block_at hA5 (Upd.block_at u5 hp.out)
    have hU6 := Lib.hid ((hU4.out.trans u5 fun _ _ h => h).trans hA5 fun _ _ h => h)
    have x0 := (cells_of hp').1 0
    have x1 := (cells_of hp').1 1
    have x2 := (cells_of hp').1 2
    have x3 := (cells_of hp').1 3
    have y0 := (cells_of hq).1 0
    have y1 := (cells_of hq).1 1
    have y2 := (cells_of hq).1 2
    have y3 := (cells_of hq).1 3
    have e1 : (er == er) = true := by simp
    clear hn5 hp5 hn5' hp5' hA5 u5 c2 hm5 hm6 hp hq hp' hU4 hP3
    simp only []
    unfold txtV
    go_wp2_with fail
    refine (rSameT _ _ _ _ _ hP3'.out hP5.out rfl).mono ?_
    rintro e w7 ⟨rfl, u7⟩
    clear x0 x1 x2 x3 y0 y1 y2 y3
    have hU7 := Lib.hid (hU6.out.trans u7 fun _ _ h => h)
    simp only []
    go_wp2_with fail
    refine (lives20 _).mono ?_
    rintro e w8 ⟨rfl, u8⟩
    have hU8 := hU7.out.trans u8 fun _ _ h => h
    simp only []
    go_wp2_with fail
    go_ret
    exact ⟨rfl, hU8⟩
  · rw [decide_eq_false h500] at cF
    unfold txtV
    clear hs h500
    go_enter Try.func3, Try.ntmps3
    go_wp2_with fail
    refine (cF.out w (Upd.refl _ _)).mono ?_
    rintro e w1 ⟨rfl, u1⟩
    simp only []
    go_wp2_with fail
    refine (lives20 _).mono ?_
    rintro e w8 ⟨rfl, u8⟩
    have hU8 := u1.trans u8 fun _ _ h => h
    simp only []
    go_wp2_with fail
    go_ret
    exact ⟨rfl, hU8⟩
end Go.Proofs.Ytphdclafeijpnaa
