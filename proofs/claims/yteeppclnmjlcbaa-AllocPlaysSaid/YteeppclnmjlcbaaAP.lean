/- The walks over package alloc: slices.Clone, Copy, New. -/
import Derived.Test.YteeppclnmjlcbaaAO
import Derived.Deep.RegionHeld3
namespace Go.Proofs.Yteeppclnmjlcbaa
open Go.RowKit Go.Amb
set_option linter.unusedVariables false

/-- An alloc's words, as cells. -/
def ws (B m : Nat) : List Value := (List.range m).map fun j => .int .u64 (wordN B j : Int)
theorem ws_length (B m : Nat) : (ws B m).length = m := by simp [ws]
theorem ws_get {B m j : Nat} (h : j < m) : (ws B m)[j]? = some (.int .u64 (wordN B j : Int)) := by simp [ws, h]
theorem ws_one (B m : Nat) : ∀ u ∈ ws B m, u.oneCell' = true := by
  intro u hu
  obtain ⟨_, _, rfl⟩ := List.mem_map.1 hu
  rfl
theorem AllocAt.has {w : World} {r g n B : Nat} (h : AllocAt w r g n B) : ∃ c, w.cell? ⟨r, 1, none⟩ = some (.slice (some ⟨g, 0, none⟩) ((n + 63) / 64) c) ∧ Has w 1 (.slice (some ⟨g, 0, none⟩) ((n + 63) / 64) c) ((n + 63) / 64) (ws B ((n + 63) / 64)) := by
  obtain ⟨c, h1, h2, h3⟩ := h.cap
  refine ⟨c, h3, by rw [ws_length, Nat.mul_one], _, c, rfl, h1, h2, .inr ⟨g, 0, rfl, fun j u hu => ?_⟩⟩
  have hj : j < (n + 63) / 64 := by
    have := (List.getElem?_eq_some_iff.1 hu).1
    rwa [ws_length] at this
  rw [ws_get hj] at hu
  cases hu
  rw [Nat.zero_add]
  exact (h.word j hj).1
theorem info_u64 : (Try.prog.info? 59).map (fun i => (i.zero, i.size, i.bytes)) = some (some (.int .u64 0), 1, 8) := rfl
def Cloned (B m : Nat) (w : World) : Ending → World → Prop := fun e w' => ∃ v, e = .returned v ∧ w'.ownsRow w.heap.size 59 1 v m (ws B m) ∧ Upd Non w w'
set_option maxHeartbeats 1000000 in
theorem aClone (a : Addr) (c B m : Nat) (w : World) (hm : m ≤ 256) (hB : Has w 1 (.slice (some a) m c) m (ws B m)) : Calls Try.prog 32 #[.slice (some a) m c] w (Cloned B m w) := by
  have hi := Lib.hid (@info_u64)
  have hB' := Lib.hid hB
  clear hB
  have hsl : ∀ (w : World) a n c, (binOp .eql 53 (.slice a n c) (.slice none 0 0)).run Try.prog w = .ok (.bool a.isNone) w := fun w a n c => Lib.run_eql_slice_nil w _ 59 a n c 0 0 Try.underlying53
  go_enter Try.func32, Try.ntmps32
  go_wp2_with (at_builtin; go_must (refine wpList_app rfl _ _ 53 53 rfl w.heap.size 59 (.int .u64 0) 1 8 Try.underlying53 hi.out rfl _ _ _ rfl (own_lit0 w w.heap.size 59 (Nat.le_refl _)) _ m (ws B m) rfl (Src.ofHas Try.underlying53 (hB'.out.upd (Upd.alloc Non w _) fun _ _ h => h) (ws_one B m)) ?h63 ?hby (by simp) ?_))
  case h63 => simp; unfold maxLen; omega
  case hby => simp; omega
  intro v' w' ho hu hf
  go_wp2_with fail
  go_ret
  exact ⟨_, rfl, by have := ho; simpa [bc] using this, (Upd.alloc Non w _).trans hu fun j hj h => by simp [At, Value.ownBlock] at h; omega⟩
/-- A new alloc's pages stand in blocks that are new. -/
def Alloced (n B : Nat) (w : World) : Ending → World → Prop := fun e w' => ∃ r g, e = .returned (.pointer (some ⟨r, 0, none⟩)) ∧ AllocAt w' r g n B ∧ Upd Non w w' ∧ w.heap.size ≤ r ∧ w.heap.size ≤ g
theorem own_block {w : World} {base : Nat} {e : TypeId} {v : Value} {m : Nat} {xs : List Value} (h : w.ownsRow base e 1 v m xs) (hm : 0 < m) : ∃ g cap, v = .slice (some ⟨g, 0, none⟩) m cap ∧ m ≤ cap ∧ cap ≤ maxLen ∧ base ≤ g ∧ g < w.heap.size ∧ ∀ j u, xs[j]? = some u → w.cell? ⟨g, j, none⟩ = some u ∧ w.frozen? ⟨g, j, none⟩ = false := by
  have h0 := h
  rcases h.2 with ⟨rfl, h1⟩ | ⟨g, cap, cur, rfl, hb, hg, hnc, hcm, hcs, ht⟩
  · omega
  · refine ⟨g, cap, rfl, hnc, hcm, hb, heap_lt hg, fun j u hu => ⟨?_, ?_⟩⟩
    · have := h0.cells (g := g) rfl j u hu
      rwa [Addr.add_lit, Nat.zero_add] at this
    · unfold World.frozen?; simp [hg]
theorem AllocAt.make {w w2 : World} {g n B m cap : Nat} (hn : 1 ≤ n ∧ n ≤ 16384) (hb : B < 2 ^ n) (hm : m = (n + 63) / 64) (hc : m ≤ cap) (hc2 : cap ≤ maxLen)
    (hg : g < w.heap.size) (hw : ∀ j, j < m → w.cell? ⟨g, j, none⟩ = some (.int .u64 (wordN B j : Int)) ∧ w.frozen? ⟨g, j, none⟩ = false) (h : w2 = (w.alloc (.cells #[.int .i64 (n : Int), .slice (some ⟨g, 0, none⟩) m cap] 55)) ) : AllocAt w2 w.heap.size g n B := by
  subst hm; subst h
  have hu := Upd.alloc Non w (.cells #[.int .i64 (n : Int), .slice (some ⟨g, 0, none⟩) ((n + 63) / 64) cap] 55)
  have hN := cells_of (heap_alloc_new w (.cells #[.int .i64 (n : Int), .slice (some ⟨g, 0, none⟩) ((n + 63) / 64) cap] 55))
  refine ⟨hn.1, hn.2, hb, by omega, (hN.1 0).trans rfl, ⟨cap, hc, hc2, (hN.1 1).trans rfl⟩, fun j hj => ⟨hu.cell (hw j hj).1 fun h => h, (World.frozen?_of_block (a := ⟨g, j, none⟩) (hu.block g hg fun h => h)).trans (hw j hj).2⟩, ?_⟩
  simp; omega
set_option maxHeartbeats 1000000 in
theorem aCopy (r g n B : Nat) (w : World) (h : AllocAt w r g n B) : Calls Try.prog 21 #[.pointer (some ⟨r, 0, none⟩)] w (Alloced n B w) := by
  have hm := Lib.hid (aMade r g n B w h)
  have hA0 := h
  have h0 := h.size
  have hn := h.most
  have hpos := h.pos
  have hbits := h.bits
  obtain ⟨c, h1, h2⟩ := h.has
  clear h
  generalize hmm : (n + 63) / 64 = m at *
  have hm1 : m ≤ 256 := by omega
  have hm0 : 0 < m := by omega
  replace hmm := Lib.hid hmm
  replace h2 := Lib.hid h2
  replace hbits := Lib.hid hbits
  go_enter Try.func21, Try.ntmps21
  go_wp2_with fail
  refine hm.out.mono ?_
  rintro e w1 ⟨rfl, hu⟩
  have c0 := hu.cell h0 fun h => h
  have c1 := hu.cell h1 fun h => h
  have hh1 := Lib.hid (h2.out.non hu)
  go_wp2_with fail
  go_region_held3 (fun w' => w'.cell? ⟨r, 0, none⟩ = some (.int .i64 (n : Int)) ∧ w'.cell? ⟨r, 1, none⟩ = some (.slice (some ⟨g, 0, none⟩) m c)) (first | go_keep | exact ⟨d0, d1⟩) ((go_at_call 32; refine (aClone _ c B m _ hm1 (hh1.out.non (Upd.drew _ _))).mono ?_; rintro e w2 ⟨v, rfl, ho, hu2⟩; obtain ⟨g2, cap, rfl, k1, k2, k3, k4, k5⟩ := own_block ho hm0; have d0 := hu2.cell (a := ⟨r, 0, none⟩) c0 fun h => h; have d1 := hu2.cell (a := ⟨r, 1, none⟩) c1 fun h => h))
  all_goals
    go_wp2_with fail
    go_ret
    have hU := (hu.then_drew).trans hu2 fun _ _ h => h
    refine ⟨_, g2, rfl, AllocAt.make ⟨hpos, hn⟩ hbits.out hmm.out.symm k1 k2 k4 (fun j hj => k5 j _ (ws_get hj)) rfl, hU.then_alloc _, hU.size, ?_⟩
    have := hu.size
    exact Nat.le_trans this k3
end Go.Proofs.Yteeppclnmjlcbaa
