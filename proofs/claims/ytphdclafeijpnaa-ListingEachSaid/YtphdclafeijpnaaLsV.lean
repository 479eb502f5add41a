/- The walk over ListingWhole. -/
import Derived.Test.YtphdclafeijpnaaLsO
import Derived.Test.YtphdclafeijpnaaLsT
import Derived.Test.YtphdclafeijpnaaLsU
namespace Go.Proofs.Ytphdclafeijpnaa
open Go.RowKit Go.Amb Go.Shelf
set_option linter.unusedVariables false
set_option linter.unusedSimpArgs false
set_option maxRecDepth 100000
/-- listing.Page, its answer laid open, its rows new. -/
def PageY (w : World) (pg : Pg) (er : Int) (en : Ending) (w' : World) : Prop :=
  ∃ a1 c1 a2 c2, en = .returned (.tuple #[.agg #[.slice a1 pg.n.length c1, .slice a2 pg.p.length c2, .string ⟨pg.x.toArray⟩, .bool pg.m], .int .i64 er]) ∧ Txts w' (.slice a1 pg.n.length c1) pg.n ∧ Txts w' (.slice a2 pg.p.length c2) pg.p ∧
    (∀ k, At (.slice a1 pg.n.length c1) k ∨ At (.slice a2 pg.p.length c2) k → w.heap.size ≤ k ∧ k < w'.heap.size) ∧ Upd Non w w'
theorem lPageY (nv : Value) (l : List Str) (p d a : Str) (m : Int) (w : World) (hT : Txts w nv l) (hlt : ∀ k, At nv k → k < w.heap.size) (hn : l.length ≤ 500) (hs : ∀ s ∈ l, s.length ≤ 140737488355328) (hm : -9223372036854775808 ≤ m) (pg : Pg) (er : Int) (hp : page p d a m l = pg) (he : pageE p d a m l = er) :
    Calls Try.prog 9 #[nv, txtV p, txtV d, txtV a, .int .i64 m] w (PageY w pg er) := by
  refine (lPage nv l p d a m w hT hlt hn hs hm).mono ?_
  rintro en w' ⟨v, rfl, ⟨n1, p1, rfl, h1, h2⟩, hu, hnw⟩
  rw [hp] at h1 h2 hnw ⊢
  rw [he]
  obtain ⟨_, a1, c1, rfl, -⟩ := id h1
  obtain ⟨_, a2, c2, rfl, -⟩ := id h2
  exact ⟨_, _, _, _, rfl, h1, h2, hnw _ _ _ _ rfl, hu⟩
set_option maxHeartbeats 2000000 in
theorem lWholeMany (nv : Value) (l : List Str) (p d : Str) (m : Int) (w : World) (hT : Txts w nv l) (hn : 50 < l.length) : Calls Try.prog 4 #[nv, txtV p, txtV d, .int .i64 m] w (Ret (.bool true) w) := by
  obtain ⟨va, vc, rfl, -⟩ := txts_at hT
  obtain ⟨n, hnn⟩ : ∃ n, l.length = n := ⟨_, rfl⟩
  rw [hnn] at hn ⊢
  have h1 : (50 : Int) < (n : Int) := by omega
  clear hT hnn
  unfold txtV
  go_enter Try.func4, Try.ntmps4
  go_wp2_with fail
  refine (lives20 _).mono ?_
  rintro e w8 ⟨rfl, u8⟩
  simp only []
  go_wp2_with fail
  go_ret
  exact ⟨rfl, u8⟩
set_option maxHeartbeats 4000000 in
/-- The asking is refused. -/
theorem lWholeBad (nv : Value) (l : List Str) (p d : Str) (m : Int) (w : World) (hT : Txts w nv l) (hn : l.length ≤ 50) (hs : ∀ s ∈ l, s.length ≤ 140737488355328) (hc : ¬ (p.length ≤ 32 ∧ d.length ≤ 1)) : Calls Try.prog 4 #[nv, txtV p, txtV d, .int .i64 m] w (Ret (.bool true) w) := by
  have cS := Lib.hid (lSorted nv l w hT (by omega))
  obtain ⟨va, vc, rfl, -⟩ := txts_at hT
  obtain ⟨n, hnn⟩ : ∃ n, l.length = n := ⟨_, rfl⟩
  rw [hnn] at hn cS ⊢
  have h1 : ((50 : Int) < (n : Int)) = False := eq_false (by omega)
  have hck : ¬ ckOk p d [] 50 := fun h => hc ⟨h.1, h.2.1⟩
  have hpP : ∀ o, page p d [] 50 o = Pg.none := fun o => by unfold page; rw [if_neg (fun h => hck h.1)]
  have hpE : ∀ o, pageE p d [] 50 o = 2 := fun o => by unfold pageE; rw [if_neg hck]
  have cP := Lib.hid (fun w' v o (hT : Txts w' v o) (hl : ∀ k, At v k → k < w'.heap.size) (hn : o.length ≤ 500) (hs : ∀ s ∈ o, s.length ≤ 140737488355328) => lPageY v o p d [] 50 w' hT hl hn hs (by omega) _ _ (hpP o) (hpE o))
  replace hs := Lib.hid hs
  clear hT hck hpP hpE hc
  unfold txtV at *
  go_enter Try.func4, Try.ntmps4
  go_wp2_with fail
  refine cS.out.mono ?_
  rintro e w1 ⟨v, o, rfl, hTo, hvo, hAo, hmo, hlo, hu1⟩
  have hv1 : ∀ k, At v k → k < w1.heap.size := fun k hk => (hvo k hk).2
  have cQ := Lib.hid (cP.out w1 v o hTo hv1 (by omega) (fun s h => hs.out s (hmo s h)))
  obtain ⟨oa, oc, rfl, -⟩ := txts_at hTo
  clear hTo hvo hAo hmo hlo hv1 cP cS
  simp only []
  go_wp2_with fail
  refine cQ.out.mono ?_
  rintro e w2 ⟨a1, c1, a2, c2, rfl, hn2, hp2, hnw, hu2⟩
  have hb := heap_alloc_new w2 (.cells #[.slice a1 Pg.none.n.length c1, .slice a2 Pg.none.p.length c2, .string ⟨Pg.none.x.toArray⟩, .bool Pg.none.m] 26)
  have hA := Upd.alloc Non w2 (.cells #[.slice a1 Pg.none.n.length c1, .slice a2 Pg.none.p.length c2, .string ⟨Pg.none.x.toArray⟩, .bool Pg.none.m] 26)
  have hPA : Hid (PgAt (w2.alloc (.cells #[.slice a1 Pg.none.n.length c1, .slice a2 Pg.none.p.length c2, .string ⟨Pg.none.x.toArray⟩, .bool Pg.none.m] 26)) (.agg #[.slice a1 Pg.none.n.length c1, .slice a2 Pg.none.p.length c2, .string ⟨Pg.none.x.toArray⟩, .bool Pg.none.m]) Pg.none) := Lib.hid ⟨_, _, rfl, hn2.non hA, hp2.non hA⟩
  have hU := Lib.hid ((hu1.trans hu2 fun _ _ h => h).trans hA fun _ _ h => h)
  have x0 := (cells_of hb).1 0
  have x1 := (cells_of hb).1 1
  have x2 := (cells_of hb).1 2
  have x3 := (cells_of hb).1 3
  clear hb hA hn2 hp2 hnw hu1 hu2 cQ
  simp only []
  go_wp2_with fail
  refine (rSameT _ _ _ _ _ hPA.out (pg_none _) rfl).mono ?_
  rintro e w3 ⟨rfl, hu3⟩
  have hU3 := Lib.hid (hU.out.trans hu3 fun _ _ h => h)
  clear x0 x1 x2 x3 hu3
  simp only []
  go_wp2_with fail
  refine (lives20 _).mono ?_
  rintro e w8 ⟨rfl, u8⟩
  have hU8 := hU3.out.trans u8 fun _ _ h => h
  simp only []
  go_wp2_with fail
  go_ret
  exact ⟨rfl, hU8⟩
end Go.Proofs.Ytphdclafeijpnaa
