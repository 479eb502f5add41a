/- The law's examples: lives. -/
import Derived.Test.YtfjcjppfihafgaaMPgI
import Derived.Test.YtfjcjppfihafgaaMPgK
import Derived.Test.YtfjcjppfihafgaaMBlN
namespace Go.Proofs.Ytfjcjppfihafgaa
open Go.RowKit Go.Amb Go.Shelf
set_option linter.unusedVariables false
set_option linter.unusedSimpArgs false
set_option maxRecDepth 100000
/-- Numbers that lie beside the pager. -/
structure Side (w : World) (O : Nat → Prop) (v : Value) (l : List Nat) : Prop where
  has : Nats w v l
  apart : ∀ k, At v k → ¬ O k ∧ k < w.heap.size
theorem Side.keep {w w' : World} {O O' : Nat → Prop} {v : Value} {l : List Nat} (h : Side w O v l) (hk : Kp w O w' O') : Side w' O' v l :=
  ⟨h.has.upd hk.upd fun k hv => (h.apart k hv).1, fun k hv => ⟨fun hF => (hk.own k hF).elim (h.apart k hv).1 fun h' => by have := (h.apart k hv).2; omega, Nat.lt_of_lt_of_le (h.apart k hv).2 hk.upd.size⟩⟩
theorem Side.non {w w' : World} {O : Nat → Prop} {v : Value} {l : List Nat} (h : Side w O v l) (hu : Upd Non w w') : Side w' O v l := h.keep (Kp.non hu)
theorem wrD_P (fr : Nat) (st : List Nat) (b : List UInt8) (d : Dk) : (wrD fr st b d).P.length ≤ d.P.length + 8 := by
  unfold wrD
  split
  · omega
  · split
    · omega
    · exact over_P _ _ 8 0 d
theorem over_facts {n base : Nat} {b : List UInt8} {d : Dk} (h : Liv d n) (hn : base + 8 ≤ n) : Liv (overD base b 8 0 d).1 n ∧ (∀ j, j < 8 → (overD base b 8 0 d).1.has (base + j) = full (chunk b j)) ∧ ∀ j, j < base ∨ base + 8 ≤ j → (overD base b 8 0 d).1.has j = d.has j := by
  obtain ⟨d', h1, h2, -, h4, h5⟩ := over_liv (b := b) 8 0 d h (by omega)
  rw [h1]
  exact ⟨h2, fun j hj => h4 j (by omega) (by omega), fun j hj => h5 j (by omega)⟩
theorem read_pad {n base : Nat} {b : List UInt8} {d : Dk} (h : Liv d n) (hn : base + 8 ≤ n) (hb : b.length ≤ 1024) (hd : ∀ j, j < 8 → d.has (base + j) = full (chunk b j)) : readD base d 8 0 [] = (pad b, 0) := by
  rw [read_liv h 8 0 [] (by omega), List.nil_append, ← chunks_all hb]
  congr 1
  have e : ∀ (l : List Nat), (∀ j ∈ l, j < 8) → (l.flatMap fun j => d.has (base + 0 + j)) = l.flatMap fun j => full (chunk b j) := by
    intro l
    induction l with
    | nil => intro _; rfl
    | cons j l ih =>
      intro hl
      rw [List.flatMap_cons, List.flatMap_cons, ih fun x hx => hl x (List.mem_cons_of_mem _ hx)]
      congr 1
      exact hd j (hl j (List.mem_cons_self ..))
  exact e _ fun j hj => List.mem_range.1 hj
theorem lit_nats (w : World) (l : List Nat) (cs : Array Value) (hl : cs = (nV l).toArray) (hm : l.length ≤ maxLen) : Nats (w.alloc (.cells cs 3)) (.slice (some ⟨w.heap.size, 0, none⟩) l.length l.length) l := by
  subst hl
  have hc := cells_of (heap_alloc_new w (.cells (nV l).toArray 3))
  refine ⟨by simp [nV], _, _, rfl, Nat.le_refl _, hm, .inr ⟨_, 0, rfl, fun j u hu => ?_⟩⟩
  rw [Nat.zero_add, hc.1]
  simpa using hu
theorem rSame_eq (va vb : Value) (l : List Nat) (w : World) (ha : Nats w va l) (hb : Nats w vb l) : Calls Try.prog 20 #[va, vb] w (Ret (.bool true) w) := by
  have := rSame va vb l l w ha hb
  rw [decide_eq_true rfl] at this
  exact this
set_option maxHeartbeats 8000000 in
theorem lives09 (w : World) : Calls Try.prog 16 #[] w (Ret (.bool true) w) := by
  have kc := fun (w : World) (C : Array Value) (n c : Nat) => Lib.run_convert_bytes_const (P := Try.prog) w 22 5 C n c Try.underlying22 Try.underlying5
  go_enter Try.func16, Try.ntmps16
  go_wp2_with fail
  refine (lvNew 30 (by decide) (by decide) w).mono ?_
  rintro en w1 ⟨D, F, rfl, hL⟩
  have hK0 : (Dk.new 30).K.length = 30 := List.length_replicate ..
  have hlv : Liv (Dk.new 30) 30 := ⟨hK0, rfl, rfl⟩
  have cN := Lib.hid (gNew hL (by rw [hK0]; exact hlv) 2 3 (by decide) (by rw [hK0]; decide))
  go_wp2_with fail
  refine cN.out.mono ?_
  rintro en w2 ⟨P, r, g, I, rfl, h0, -⟩
  have l0 : (Dk.new 30).P.length ≤ 0 := Nat.le_refl _
  clear cN hL
  replace h0 : Pg w w2 P D F r g I 2 [0, 0, 0] (Dk.new 30) := h0
  go_wp2_with fail
  have hgW := (h0).non (Upd.alloc Non w2 (.cells #[.int .u8 97] 5 (1, 2)))
  have hcW := Lib.hid (gWrite hgW (by omega) _ [97] (bytes_const w2 5 [97] (1, 2) (by decide)) (fun k hk hO => by
    have h1 := (h0).pb.own_lt k hO
    have h2 : k = (w2).heap.size := by simpa [At, Value.ownBlock, eq_comm] using hk
    omega))
  rw [show wrV [0, 0, 0] [97] = (0, 0, [2, 0, 0]) from rfl] at hcW
  clear hgW
  go_wp2_with fail
  refine hcW.out.mono ?_
  rintro en w3 ⟨rfl, F1, d1, h1, e1, k1⟩
  have l1 : (d1).P.length ≤ _ := Nat.le_trans (by rw [e1]; exact wrD_P _ _ _ _) (Nat.add_le_add_right (by assumption) 8)
  replace k1 := (Kp.non (Upd.alloc Non w2 (.cells #[.int .u8 97] 5 (1, 2)))).trans k1
  clear hcW
  go_wp2_with fail
  have hgW := (h1).non (Upd.alloc Non w3 (.cells #[.int .u8 98] 5 (1, 2)))
  have hcW := Lib.hid (gWrite hgW (by omega) _ [98] (bytes_const w3 5 [98] (1, 2) (by decide)) (fun k hk hO => by
    have h1 := (h1).pb.own_lt k hO
    have h2 : k = (w3).heap.size := by simpa [At, Value.ownBlock, eq_comm] using hk
    omega))
  rw [show wrV [2, 0, 0] [98] = (1, 0, [2, 2, 0]) from rfl] at hcW
  clear hgW
  go_wp2_with fail
  refine hcW.out.mono ?_
  rintro en w4 ⟨rfl, F2, d2, h2, e2, k2⟩
  have l2 : (d2).P.length ≤ _ := Nat.le_trans (by rw [e2]; exact wrD_P _ _ _ _) (Nat.add_le_add_right (by assumption) 8)
  replace k2 := (Kp.non (Upd.alloc Non w3 (.cells #[.int .u8 98] 5 (1, 2)))).trans k2
  clear hcW
  have hcC := Lib.hid (gSettle h2)
  go_wp2_with fail
  refine hcC.out.mono ?_
  rintro en w5 ⟨rfl, F3, d3, h3, hdd, k3⟩
  replace hdd := hdd.symm
  subst hdd
  clear hcC
  replace h3 : Pg w w5 P D F3 r g I 2 [1, 1, 0] d2 := h3
  have hcC := Lib.hid (gRelease h3 0)
  go_wp2_with fail
  refine hcC.out.mono ?_
  rintro en w6 ⟨rfl, F4, d4, h4, hdd, k4⟩
  replace hdd := hdd.symm
  subst hdd
  clear hcC
  replace h4 : Pg w w6 P D F4 r g I 2 [3, 1, 0] d2 := h4
  go_wp2_with fail
  have hgW := (h4).non (Upd.alloc Non w6 (.cells #[.int .u8 99] 5 (1, 2)))
  have hcW := Lib.hid (gWrite hgW (by omega) _ [99] (bytes_const w6 5 [99] (1, 2) (by decide)) (fun k hk hO => by
    have h1 := (h4).pb.own_lt k hO
    have h2 : k = (w6).heap.size := by simpa [At, Value.ownBlock, eq_comm] using hk
    omega))
  rw [show wrV [3, 1, 0] [99] = (2, 0, [3, 1, 2]) from rfl] at hcW
  clear hgW
  go_wp2_with fail
  refine hcW.out.mono ?_
  rintro en w7 ⟨rfl, F5, d5, h5, e5, k5⟩
  have l5 : (d5).P.length ≤ _ := Nat.le_trans (by rw [e5]; exact wrD_P _ _ _ _) (Nat.add_le_add_right (by assumption) 8)
  replace k5 := (Kp.non (Upd.alloc Non w6 (.cells #[.int .u8 99] 5 (1, 2)))).trans k5
  clear hcW
  go_wp2_with fail
  have hgW := (h5).non (Upd.alloc Non w7 (.cells #[.int .u8 100] 5 (1, 2)))
  have hcW := Lib.hid (gWrite hgW (by omega) _ [100] (bytes_const w7 5 [100] (1, 2) (by decide)) (fun k hk hO => by
    have h1 := (h5).pb.own_lt k hO
    have h2 : k = (w7).heap.size := by simpa [At, Value.ownBlock, eq_comm] using hk
    omega))
  rw [show wrV [3, 1, 2] [100] = (0, 10, [3, 1, 2]) from rfl] at hcW
  clear hgW
  go_wp2_with fail
  refine hcW.out.mono ?_
  rintro en w8 ⟨rfl, F6, d6, h6, e6, k6⟩
  have l6 : (d6).P.length ≤ _ := Nat.le_trans (by rw [e6]; exact wrD_P _ _ _ _) (Nat.add_le_add_right (by assumption) 8)
  replace k6 := (Kp.non (Upd.alloc Non w7 (.cells #[.int .u8 100] 5 (1, 2)))).trans k6
  clear hcW
  have cP := Lib.hid (gPages h6.pb)
  rw [show those 1 0 [3, 1, 2] = [1] from rfl, show those 2 0 [3, 1, 2] = [2] from rfl, show those 3 0 [3, 1, 2] = [0] from rfl] at cP
  go_wp2_with fail
  refine cP.out.mono ?_
  rintro en w9 ⟨a1, c1, a2, c2, a3, c3, rfl, n1, n2, n3, hu, b1, b2, b3⟩
  have h7 := h6.non hu
  have hlt7 := h6.pb.own_lt
  have s1 : Side w9 (own F6 P I r g) _ [1] := ⟨n1, fun k hk => ⟨fun hO => by have := hlt7 k hO; have := (b1 k hk).1; omega, (b1 k hk).2⟩⟩
  have s2 : Side w9 (own F6 P I r g) _ [2] := ⟨n2, fun k hk => ⟨fun hO => by have := hlt7 k hO; have := (b2 k hk).1; omega, (b2 k hk).2⟩⟩
  have s3 : Side w9 (own F6 P I r g) _ [0] := ⟨n3, fun k hk => ⟨fun hO => by have := hlt7 k hO; have := (b3 k hk).1; omega, (b3 k hk).2⟩⟩
  clear n1 n2 n3 hu b1 b2 b3 hlt7 cP
  have hcC := Lib.hid (gUndo h7)
  go_wp2_with fail
  refine hcC.out.mono ?_
  rintro en w10 ⟨rfl, F8, d8, h8, hdd, k8⟩
  replace hdd := hdd.symm
  subst hdd
  clear hcC
  replace h8 : Pg w w10 P D F8 r g I 2 [1, 1, 0] d6 := h8
  replace s1 := s1.keep k8
  replace s2 := s2.keep k8
  replace s3 := s3.keep k8
  have cP := Lib.hid (gPages h8.pb)
  rw [show those 1 0 [1, 1, 0] = [0, 1] from rfl, show those 2 0 [1, 1, 0] = [] from rfl, show those 3 0 [1, 1, 0] = [] from rfl] at cP
  go_wp2_with fail
  refine cP.out.mono ?_
  rintro en w11 ⟨a4, c4, a5, c5, a6, c6, rfl, n4, -, -, hu, b4, -, -⟩
  have h9 := h8.non hu
  have hlt8 := h8.pb.own_lt
  replace s1 := s1.non hu
  replace s2 := s2.non hu
  replace s3 := s3.non hu
  have s4 : Side w11 (own F8 P I r g) _ [0, 1] := ⟨n4, fun k hk => ⟨fun hO => by have := hlt8 k hO; have := (b4 k hk).1; omega, (b4 k hk).2⟩⟩
  clear n4 hu b4 hlt8 cP
  go_wp2_with fail
  have hgW := (h9).non (Upd.alloc Non w11 (.cells #[.int .u8 101] 5 (1, 2)))
  have hcW := Lib.hid (gWrite hgW (by omega) _ [101] (bytes_const w11 5 [101] (1, 2) (by decide)) (fun k hk hO => by
    have h1 := (h9).pb.own_lt k hO
    have h2 : k = (w11).heap.size := by simpa [At, Value.ownBlock, eq_comm] using hk
    omega))
  rw [show wrV [1, 1, 0] [101] = (2, 0, [1, 1, 2]) from rfl] at hcW
  clear hgW
  go_wp2_with fail
  refine hcW.out.mono ?_
  rintro en w12 ⟨rfl, F10, d10, h10, e10, k10⟩
  have l10 : (d10).P.length ≤ _ := Nat.le_trans (by rw [e10]; exact wrD_P _ _ _ _) (Nat.add_le_add_right (by assumption) 8)
  replace k10 := (Kp.non (Upd.alloc Non w11 (.cells #[.int .u8 101] 5 (1, 2)))).trans k10
  clear hcW
  replace s1 := s1.keep k10
  replace s2 := s2.keep k10
  replace s3 := s3.keep k10
  replace s4 := s4.keep k10
  have hcC := Lib.hid (gRelease h10 0)
  go_wp2_with fail
  refine hcC.out.mono ?_
  rintro en w13 ⟨rfl, F11, d11, h11, hdd, k11⟩
  replace hdd := hdd.symm
  subst hdd
  clear hcC
  replace h11 : Pg w w13 P D F11 r g I 2 [3, 1, 2] d10 := h11
  replace s1 := s1.keep k11
  replace s2 := s2.keep k11
  replace s3 := s3.keep k11
  replace s4 := s4.keep k11
  have hcC := Lib.hid (gSettle h11)
  go_wp2_with fail
  refine hcC.out.mono ?_
  rintro en w14 ⟨rfl, F12, d12, h12, hdd, k12⟩
  replace hdd := hdd.symm
  subst hdd
  clear hcC
  replace h12 : Pg w w14 P D F12 r g I 2 [0, 1, 1] d10 := h12
  replace s1 := s1.keep k12
  replace s2 := s2.keep k12
  replace s3 := s3.keep k12
  replace s4 := s4.keep k12
  go_wp2_with fail
  have hgW := (h12).non (Upd.alloc Non w14 (.cells #[.int .u8 102] 5 (1, 2)))
  have hcW := Lib.hid (gWrite hgW (by omega) _ [102] (bytes_const w14 5 [102] (1, 2) (by decide)) (fun k hk hO => by
    have h1 := (h12).pb.own_lt k hO
    have h2 : k = (w14).heap.size := by simpa [At, Value.ownBlock, eq_comm] using hk
    omega))
  rw [show wrV [0, 1, 1] [102] = (0, 0, [2, 1, 1]) from rfl] at hcW
  clear hgW
  go_wp2_with fail
  refine hcW.out.mono ?_
  rintro en w15 ⟨rfl, F13, d13, h13, e13, k13⟩
  have l13 : (d13).P.length ≤ _ := Nat.le_trans (by rw [e13]; exact wrD_P _ _ _ _) (Nat.add_le_add_right (by assumption) 8)
  replace k13 := (Kp.non (Upd.alloc Non w14 (.cells #[.int .u8 102] 5 (1, 2)))).trans k13
  clear hcW
  replace s1 := s1.keep k13
  replace s2 := s2.keep k13
  replace s3 := s3.keep k13
  replace s4 := s4.keep k13
  have hrd : rdV 2 [2, 1, 1] d13 1 = (pad [98], 0) := by
    obtain ⟨v1, -, -⟩ := over_facts (b := [97]) (base := 2) hlv (by decide)
    obtain ⟨v2, r2, -⟩ := over_facts (b := [98]) (base := 10) v1 (by decide)
    obtain ⟨v3, -, q3⟩ := over_facts (b := [99]) (base := 18) v2 (by decide)
    obtain ⟨v4, -, q4⟩ := over_facts (b := [101]) (base := 18) v3 (by decide)
    obtain ⟨v5, -, q5⟩ := over_facts (b := [102]) (base := 2) v4 (by decide)
    have ed : d13 = (overD 2 [102] 8 0 (overD 18 [101] 8 0 (overD 18 [99] 8 0 (overD 10 [98] 8 0 (overD 2 [97] 8 0 (Dk.new 30)).1).1).1).1).1 := by
      rw [e13, e10, e6, e5, e2, e1]; rfl
    rw [← ed] at v5 q5
    show ((readD 10 d13 8 0 []).1, (0 : Int)) = _
    rw [read_pad (b := [98]) v5 (by decide) (by decide) fun j hj => by rw [q5 _ (by omega), q4 _ (by omega), q3 _ (by omega)]; exact r2 j hj]
  have cR := Lib.hid (gRead h13 (by omega) 1)
  rw [hrd] at cR
  clear hrd e13 e10 e6 e5 e2 e1 h0 h1 h2 h3 h4 h5 h6 h7 h8 h9 h10 h11 h12 k1 k2 k3 k4 k5 k6 k8 k10 k11 k12 k13 l0 l1 l2 l5 l6 l10 l13 hlv hK0
  go_wp2_with fail
  refine cR.out.mono ?_
  rintro en w16 ⟨a7, c7, rfl, hB, hu, -⟩
  rw [show (pad [98]).length = 1024 from pad_length (by decide)] at hB ⊢
  have hU := h13.pb.lv.upd.trans hu fun _ _ h => h
  have n1 := (s1.non hu).has
  have n2 := (s2.non hu).has
  have n3 := (s3.non hu).has
  have n4 := (s4.non hu).has
  clear cR hu s1 s2 s3 s4
  obtain ⟨_, a7', c7', e7, -, -, hB3⟩ := hB
  injection e7 with e7 _ _
  subst e7
  rcases hB3 with hB3 | ⟨gB, oB, rfl, hB3⟩
  · exact absurd hB3 (by decide)
  have x0 : w16.cell? ⟨gB, oB, none⟩ = some (.int .u8 98) := hB3 0 _ rfl
  clear hB3
  have hV := Upd.refl Non w16
  have cS := Lib.hid (rSame_eq _ _ [1] _ (n1.non (hV.then_alloc (.cells #[.int .i64 1] 3))) (lit_nats w16 [1] _ rfl (by decide)))
  go_wp2_with fail
  refine cS.out.mono ?_
  rintro en w17 ⟨rfl, hu⟩
  replace hV := (hV.then_alloc (.cells #[.int .i64 1] 3)).trans hu fun _ _ h => h
  clear hu cS
  have cS := Lib.hid (rSame_eq _ _ [2] _ (n2.non (hV.then_alloc (.cells #[.int .i64 2] 3))) (lit_nats w17 [2] _ rfl (by decide)))
  go_wp2_with fail
  refine cS.out.mono ?_
  rintro en w18 ⟨rfl, hu⟩
  replace hV := (hV.then_alloc (.cells #[.int .i64 2] 3)).trans hu fun _ _ h => h
  clear hu cS
  have cS := Lib.hid (rSame_eq _ _ [0] _ (n3.non (hV.then_alloc (.cells #[.int .i64 0] 3))) (lit_nats w18 [0] _ rfl (by decide)))
  go_wp2_with fail
  refine cS.out.mono ?_
  rintro en w19 ⟨rfl, hu⟩
  replace hV := (hV.then_alloc (.cells #[.int .i64 0] 3)).trans hu fun _ _ h => h
  clear hu cS
  have cS := Lib.hid (rSame_eq _ _ [0, 1] _ (n4.non (hV.then_alloc (.cells #[.int .i64 0, .int .i64 1] 3))) (lit_nats w19 [0, 1] _ rfl (by decide)))
  go_wp2_with fail
  refine cS.out.mono ?_
  rintro en w20 ⟨rfl, hu⟩
  replace hV := (hV.then_alloc (.cells #[.int .i64 0, .int .i64 1] 3)).trans hu fun _ _ h => h
  clear hu cS
  replace x0 := hV.cell x0 fun h => h
  go_wp2_with fail
  go_ret
  exact ⟨rfl, hU.trans hV fun _ _ h => h⟩
end Go.Proofs.Ytfjcjppfihafgaa
