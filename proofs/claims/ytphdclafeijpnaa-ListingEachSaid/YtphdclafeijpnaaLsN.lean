/- The document's examples of chapter 20. -/
import Derived.Test.YtphdclafeijpnaaLsL
import Derived.Test.YtphdclafeijpnaaLsM
namespace Go.Proofs.Ytphdclafeijpnaa
open Go.RowKit Go.Amb Go.Shelf
set_option linter.unusedVariables false
set_option linter.unusedSimpArgs false
set_option maxRecDepth 100000
def exL : List Str := [[97], [98, 47, 49], [98, 47, 50], [99]]
/-- listing.Page, its answer laid open. -/
theorem lPageX (nv : Value) (l : List Str) (p d a : Str) (m : Int) (w : World) (hT : Txts w nv l) (hlt : ∀ k, At nv k → k < w.heap.size) (hn : l.length ≤ 500) (hs : ∀ s ∈ l, s.length ≤ 140737488355328) (hm : -9223372036854775808 ≤ m) (pg : Pg) (er : Int) (hp : page p d a m l = pg) (he : pageE p d a m l = er) :
    Calls Try.prog 9 #[nv, txtV p, txtV d, txtV a, .int .i64 m] w (fun en w' => ∃ a1 n1 c1 a2 n2 c2, en = .returned (.tuple #[.agg #[.slice a1 n1 c1, .slice a2 n2 c2, .string ⟨pg.x.toArray⟩, .bool pg.m], .int .i64 er]) ∧
      PgAt w' (.agg #[.slice a1 n1 c1, .slice a2 n2 c2, .string ⟨pg.x.toArray⟩, .bool pg.m]) pg ∧ Upd Non w w') := by
  refine (lPage nv l p d a m w hT hlt hn hs hm).mono ?_
  rintro en w' ⟨v, rfl, ⟨n1, p1, rfl, h1, h2⟩, hu, -⟩
  rw [hp] at h1 h2 ⊢
  rw [he]
  obtain ⟨_, a1, c1, rfl, -⟩ := id h1
  obtain ⟨_, a2, c2, rfl, -⟩ := id h2
  exact ⟨_, _, _, _, _, _, rfl, ⟨_, _, rfl, h1, h2⟩, hu⟩
theorem PgAt.non {w w' : World} {v : Value} {pg : Pg} (h : PgAt w v pg) (hu : Upd Non w w') : PgAt w' v pg := by
  obtain ⟨n, p, rfl, h1, h2⟩ := h
  exact ⟨n, p, rfl, h1.non hu, h2.non hu⟩
theorem txts_new (w : World) (l : List Str) (t : TypeId) (n : Nat) (hn : n = l.length) (hm : l.length ≤ maxLen) : Txts (w.alloc (.cells (l.map txtV).toArray t)) (.slice (some ⟨w.heap.size, 0, none⟩) n n) l := by
  subst hn; exact has_new w _ t 1 _ (by simp) hm
theorem bk_ex (s : Str) (v : Int) (w : World) (hs : s.length ≤ 140737488355328) (h : bk s = v) : Calls Try.prog 14 #[.string ⟨s.toArray⟩] w (Ret (.int .i64 v) w) := by
  rw [← h]; exact lBucket s w hs
theorem pg_built2 (W : World) (n p : List Str) (x : Str) (m : Bool) (hn : n.length ≤ maxLen) (hp : p.length ≤ maxLen) : PgAt ((W.alloc (.cells (n.map txtV).toArray 9)).alloc (.cells (p.map txtV).toArray 9)) (.agg #[.slice (some ⟨W.heap.size, 0, none⟩) n.length n.length, .slice (some ⟨W.heap.size + 1, 0, none⟩) p.length p.length, .string ⟨x.toArray⟩, .bool m]) ⟨n, p, x, m⟩ := by
  have h1 := txts_new W n 9 n.length rfl hn
  have h2 := txts_new (W.alloc (.cells (n.map txtV).toArray 9)) p 9 p.length rfl hp
  rw [World.size_alloc] at h2
  exact ⟨_, _, rfl, h1.non (Upd.alloc _ _ _), h2⟩
theorem pg_built1 (W : World) (n : List Str) (hn : n.length ≤ maxLen) : PgAt (W.alloc (.cells (n.map txtV).toArray 9)) (.agg #[.slice (some ⟨W.heap.size, 0, none⟩) n.length n.length, .slice none 0 0, .string ⟨#[]⟩, .bool false]) ⟨n, [], [], false⟩ := ⟨_, _, rfl, txts_new W n 9 n.length rfl hn, txts_nil _⟩
theorem rSameT (va vb : Value) (a b : Pg) (w : World) (hA : PgAt w va a) (hB : PgAt w vb b) (h : a = b) : Calls Try.prog 11 #[va, vb] w (Ret (.bool true) w) := by
  have := rSame va vb a b w hA hB
  rw [decide_eq_true h] at this; exact this
set_option maxHeartbeats 4000000 in
theorem lives20 (w : World) : Calls Try.prog 8 #[] w (Ret (.bool true) w) := by
  have hT0 := txts_new w exL 9 4 rfl (by decide)
  have hl0 : ∀ k, At (.slice (some ⟨w.heap.size, 0, none⟩) 4 4) k → k < (w.alloc (.cells (exL.map txtV).toArray 9)).heap.size := fun k hk => by simp [At, Value.ownBlock] at hk; subst hk; simp
  have hA0 := Upd.alloc Non w (.cells (exL.map txtV).toArray 9)
  have hs : ∀ s ∈ exL, s.length ≤ 140737488355328 := by decide
  have mk := fun (w' : World) (hu : Upd Non (w.alloc (.cells (exL.map txtV).toArray 9)) w') (p d a : Str) (m : Int) (hm : -9223372036854775808 ≤ m) (pg : Pg) (hp : page p d a m exL = pg) (he : pageE p d a m exL = 0) =>
    lPageX (.slice (some ⟨w.heap.size, 0, none⟩) 4 4) exL p d a m w' (hT0.non hu) (fun k hk => Nat.lt_of_lt_of_le (hl0 k hk) hu.size) (by decide) hs hm pg 0 hp he
  have c1 := Lib.hid (fun w' hu => mk w' hu [] [47] [] 50 (by decide) ⟨[[97], [99]], [[98, 47]], [], false⟩ (by decide) (by decide))
  have c2 := Lib.hid (fun w' hu => mk w' hu [] [47] [] 2 (by decide) ⟨[[97]], [[98, 47]], [98, 47], true⟩ (by decide) (by decide))
  have c3 := Lib.hid (fun w' hu => mk w' hu [] [47] [98, 47] 2 (by decide) ⟨[[99]], [], [], false⟩ (by decide) (by decide))
  have c4 := Lib.hid (fun w' hu => mk w' hu [] [47] [98, 47, 49] 2 (by decide) ⟨[[99]], [], [], false⟩ (by decide) (by decide))
  clear mk hT0 hl0 hs
  have B0 := Lib.hid (fun w => bk_ex [97, 98] 15 w (by decide) (by decide))
  have B1 := Lib.hid (fun w => bk_ex [97, 45, 98] 0 w (by decide) (by decide))
  have B2 := Lib.hid (fun w => bk_ex [97, 45, 45] 15 w (by decide) (by decide))
  go_enter Try.func8, Try.ntmps8
  go_wp2_with fail
  refine (c1.out _ (Upd.refl Non _)).mono ?_
  rintro en w1 ⟨a1, n1, d1, e1, m1, f1, rfl, h1, u1⟩
  clear c1
  have P1 := heap_alloc_new w1 (.cells #[.slice a1 n1 d1, .slice e1 m1 f1, .string ⟨#[]⟩, .bool false] 26)
  have g1 : Upd Non w1 (w1.alloc (.cells #[.slice a1 n1 d1, .slice e1 m1 f1, .string ⟨#[]⟩, .bool false] 26)) := Upd.alloc _ _ _
  have v1 : Hid (Upd Non (w.alloc (.cells (exL.map txtV).toArray 9)) (w1.alloc (.cells #[.slice a1 n1 d1, .slice e1 m1 f1, .string ⟨#[]⟩, .bool false] 26))) := Lib.hid (u1.trans g1 fun _ _ h => h)
  replace h1 := Lib.hid (h1.non g1)
  replace P1 := Lib.hid P1
  clear g1 u1
  simp only []
  go_wp2_with fail
  refine (c2.out _ v1.out).mono ?_
  rintro en w2 ⟨a2, n2, d2, e2, m2, f2, rfl, h2, u2⟩
  clear c2
  have P2 := heap_alloc_new w2 (.cells #[.slice a2 n2 d2, .slice e2 m2 f2, .string ⟨#[98, 47]⟩, .bool true] 26)
  have g2 : Upd Non w2 (w2.alloc (.cells #[.slice a2 n2 d2, .slice e2 m2 f2, .string ⟨#[98, 47]⟩, .bool true] 26)) := Upd.alloc _ _ _
  have v2 := Lib.hid ((v1.out.trans u2 fun _ _ h => h).trans g2 fun _ _ h => h)
  replace h1 := Lib.hid ((h1.out.non u2).non g2)
  replace P1 := Lib.hid (Upd.block_at g2 (Upd.block_at u2 P1.out))
  replace h2 := Lib.hid (h2.non g2)
  replace P2 := Lib.hid P2
  clear g2 u2
  simp only []
  go_wp2_with fail
  refine (c3.out _ v2.out).mono ?_
  rintro en w3 ⟨a3, n3, d3, e3, m3, f3, rfl, h3, u3⟩
  clear c3
  have P3 := heap_alloc_new w3 (.cells #[.slice a3 n3 d3, .slice e3 m3 f3, .string ⟨#[]⟩, .bool false] 26)
  have g3 : Upd Non w3 (w3.alloc (.cells #[.slice a3 n3 d3, .slice e3 m3 f3, .string ⟨#[]⟩, .bool false] 26)) := Upd.alloc _ _ _
  have v3 := Lib.hid ((v2.out.trans u3 fun _ _ h => h).trans g3 fun _ _ h => h)
  replace h1 := Lib.hid ((h1.out.non u3).non g3)
  replace P1 := Lib.hid (Upd.block_at g3 (Upd.block_at u3 P1.out))
  replace h2 := Lib.hid ((h2.out.non u3).non g3)
  replace P2 := Lib.hid (Upd.block_at g3 (Upd.block_at u3 P2.out))
  replace h3 := Lib.hid (h3.non g3)
  replace P3 := Lib.hid P3
  clear g3 u3
  simp only []
  go_wp2_with fail
  refine (c4.out _ v3.out).mono ?_
  rintro en w4 ⟨a4, n4, d4, e4, m4, f4, rfl, h4, u4⟩
  clear c4
  have P4 := heap_alloc_new w4 (.cells #[.slice a4 n4 d4, .slice e4 m4 f4, .string ⟨#[]⟩, .bool false] 26)
  have g4 : Upd Non w4 (w4.alloc (.cells #[.slice a4 n4 d4, .slice e4 m4 f4, .string ⟨#[]⟩, .bool false] 26)) := Upd.alloc _ _ _
  have v4 := Lib.hid ((v3.out.trans u4 fun _ _ h => h).trans g4 fun _ _ h => h)
  replace h1 := Lib.hid ((h1.out.non u4).non g4)
  replace P1 := Lib.hid (Upd.block_at g4 (Upd.block_at u4 P1.out))
  replace h2 := Lib.hid ((h2.out.non u4).non g4)
  replace P2 := Lib.hid (Upd.block_at g4 (Upd.block_at u4 P2.out))
  replace h3 := Lib.hid ((h3.out.non u4).non g4)
  replace P3 := Lib.hid (Upd.block_at g4 (Upd.block_at u4 P3.out))
  replace h4 := Lib.hid (h4.non g4)
  replace P4 := Lib.hid P4
  clear g4 u4
  have q0 := (cells_of P1.out).1 0
  have q1 := (cells_of P1.out).1 1
  have q2 := (cells_of P1.out).1 2
  have q3 := (cells_of P1.out).1 3
  simp only []
  go_wp2_with fail
  obtain ⟨W4, hW4⟩ : ∃ W4, w4.alloc (.cells #[.slice a4 n4 d4, .slice e4 m4 f4, .string ⟨#[]⟩, .bool false] 26) = W4 := ⟨_, rfl⟩
  have hz4 : w4.heap.size + 1 = W4.heap.size := by rw [← hW4]; simp
  rw [hW4] at v4 h1 h2 h3 h4 P1 P2 P3 P4 ⊢
  rw [hz4]
  clear q0 q1 q2 q3 hW4 hz4
  have hU4 : Hid (Upd Non w W4) := Lib.hid (hA0.trans v4.out fun _ _ h => h)
  clear v1 v2 v3 v4 hA0
  refine (rSameT _ _ _ _ _ (h1.out.non (((Upd.refl Non W4).then_alloc _).then_alloc _)) (pg_built2 W4 [[97], [99]] [[98, 47]] [] false (by decide) (by decide)) rfl).mono ?_
  rintro en s1 ⟨rfl, us1⟩
  have ut1 : Upd Non W4 s1 := (((Upd.refl Non W4).then_alloc _).then_alloc _).trans us1 fun _ _ h => h
  replace h2 := Lib.hid (h2.out.non ut1)
  replace P2 := Lib.hid (Upd.block_at ut1 P2.out)
  replace h3 := Lib.hid (h3.out.non ut1)
  replace P3 := Lib.hid (Upd.block_at ut1 P3.out)
  replace h4 := Lib.hid (h4.out.non ut1)
  replace P4 := Lib.hid (Upd.block_at ut1 P4.out)
  replace hU4 := Lib.hid (hU4.out.trans ut1 fun _ _ h => h)
  clear us1 ut1 h1 P1
  have q0 := (cells_of P2.out).1 0
  have q1 := (cells_of P2.out).1 1
  have q2 := (cells_of P2.out).1 2
  have q3 := (cells_of P2.out).1 3
  simp only []
  go_wp2_with fail
  clear q0 q1 q2 q3
  refine (rSameT _ _ _ _ _ (h2.out.non (((Upd.refl Non s1).then_alloc _).then_alloc _)) (pg_built2 s1 [[97]] [[98, 47]] [98, 47] true (by decide) (by decide)) rfl).mono ?_
  rintro en s2 ⟨rfl, us2⟩
  have ut2 : Upd Non s1 s2 := (((Upd.refl Non s1).then_alloc _).then_alloc _).trans us2 fun _ _ h => h
  replace h3 := Lib.hid (h3.out.non ut2)
  replace P3 := Lib.hid (Upd.block_at ut2 P3.out)
  replace h4 := Lib.hid (h4.out.non ut2)
  replace P4 := Lib.hid (Upd.block_at ut2 P4.out)
  replace hU4 := Lib.hid (hU4.out.trans ut2 fun _ _ h => h)
  clear us2 ut2 h2 P2
  have q0 := (cells_of P3.out).1 0
  have q1 := (cells_of P3.out).1 1
  have q2 := (cells_of P3.out).1 2
  have q3 := (cells_of P3.out).1 3
  simp only []
  go_wp2_with fail
  clear q0 q1 q2 q3
  refine (rSameT _ _ _ _ _ (h3.out.non ((Upd.refl Non s2).then_alloc _)) (pg_built1 s2 [[99]] (by decide)) rfl).mono ?_
  rintro en s3 ⟨rfl, us3⟩
  have ut3 : Upd Non s2 s3 := ((Upd.refl Non s2).then_alloc _).trans us3 fun _ _ h => h
  replace h4 := Lib.hid (h4.out.non ut3)
  replace P4 := Lib.hid (Upd.block_at ut3 P4.out)
  replace hU4 := Lib.hid (hU4.out.trans ut3 fun _ _ h => h)
  clear us3 ut3 h3 P3
  have q0 := (cells_of P4.out).1 0
  have q1 := (cells_of P4.out).1 1
  have q2 := (cells_of P4.out).1 2
  have q3 := (cells_of P4.out).1 3
  simp only []
  go_wp2_with fail
  clear q0 q1 q2 q3
  refine (rSameT _ _ _ _ _ (h4.out.non ((Upd.refl Non s3).then_alloc _)) (pg_built1 s3 [[99]] (by decide)) rfl).mono ?_
  rintro en s4 ⟨rfl, us4⟩
  have ut4 : Upd Non s3 s4 := ((Upd.refl Non s3).then_alloc _).trans us4 fun _ _ h => h
  replace hU4 := Lib.hid (hU4.out.trans ut4 fun _ _ h => h)
  clear us4 ut4 h4 P4
  simp only []
  go_wp2_with fail
  refine (B0.out _).mono ?_
  rintro en t0 ⟨rfl, ut0⟩
  replace hU4 := Lib.hid (hU4.out.trans ut0 fun _ _ h => h)
  clear ut0
  simp only []
  go_wp2_with fail
  refine (B1.out _).mono ?_
  rintro en t1 ⟨rfl, ut1⟩
  replace hU4 := Lib.hid (hU4.out.trans ut1 fun _ _ h => h)
  clear ut1
  simp only []
  go_wp2_with fail
  refine (B2.out _).mono ?_
  rintro en t2 ⟨rfl, ut2⟩
  replace hU4 := Lib.hid (hU4.out.trans ut2 fun _ _ h => h)
  clear ut2
  simp only []
  go_wp2_with fail
  go_ret
  exact ⟨rfl, hU4.out⟩
end Go.Proofs.Ytphdclafeijpnaa
