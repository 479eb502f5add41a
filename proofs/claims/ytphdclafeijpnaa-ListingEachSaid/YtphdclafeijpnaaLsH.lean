/- listing.entries; listing.Page where it refuses. -/
import Derived.Test.YtphdclafeijpnaaLsG
import Derived.Test.YtphdclafeijpnaaLsF
namespace Go.Proofs.Ytphdclafeijpnaa
open Go.RowKit Go.Amb Go.Shelf
set_option linter.unusedVariables false
set_option linter.unusedSimpArgs false
set_option maxRecDepth 100000
theorem Upd.block_at {w w' : World} (h : Upd Non w w') {k : Nat} {o : Obj} (hk : w.heap[k]? = some o) : w'.heap[k]? = some o := h.heap hk fun h => h
theorem lEntries (nv : Value) (l : List Str) (p d a : Str) (w : World) (hT : Txts w nv l) (hlt : ∀ k, At nv k → k < w.heap.size) : Calls Try.prog 20 #[nv, txtV p, txtV d, txtV a] w
    (fun en w' => en = .returned (.func (.func 25) #[] #[.pointer (some ⟨w.heap.size + 3, 0, none⟩), .pointer (some ⟨w.heap.size, 0, none⟩), .pointer (some ⟨w.heap.size + 1, 0, none⟩), .pointer (some ⟨w.heap.size + 2, 0, none⟩)]) ∧
      EntAt w' w.heap.size (w.heap.size + 1) (w.heap.size + 2) (w.heap.size + 3) nv l p d a ∧ Upd Non w w' ∧ w'.heap.size = w.heap.size + 4) := by
  obtain ⟨va, vc, rfl, -⟩ := txts_at hT
  obtain ⟨n, hn⟩ : ∃ n, l.length = n := ⟨_, rfl⟩
  rw [hn] at hlt ⊢
  have hT' : Hid (Txts w (.slice va n vc) l) := Lib.hid (by rw [← hn]; exact hT)
  replace hlt := Lib.hid hlt
  clear hT
  unfold txtV
  go_enter Try.func20, Try.ntmps20
  go_wp2_with fail
  go_ret
  have h0 := heap_alloc_new w (.cells #[.slice va n vc] 22)
  have h1 := heap_alloc_new (w.alloc (.cells #[.slice va n vc] 22)) (.cells #[.string ⟨p.toArray⟩] 9)
  have h2 := heap_alloc_new ((w.alloc (.cells #[.slice va n vc] 22)).alloc (.cells #[.string ⟨p.toArray⟩] 9)) (.cells #[.string ⟨d.toArray⟩] 9)
  have h3 := heap_alloc_new (((w.alloc (.cells #[.slice va n vc] 22)).alloc (.cells #[.string ⟨p.toArray⟩] 9)).alloc (.cells #[.string ⟨d.toArray⟩] 9)) (.cells #[.string ⟨a.toArray⟩] 9)
  have u1 := fun (w : World) (o : Obj) => Upd.alloc Non w o
  simp only [World.size_alloc] at h0 h1 h2 h3
  refine ⟨rfl, ⟨Upd.block_at (u1 _ _) (Upd.block_at (u1 _ _) (Upd.block_at (u1 _ _) h0)), Upd.block_at (u1 _ _) (Upd.block_at (u1 _ _) h1), Upd.block_at (u1 _ _) h2, h3, hT'.out.non (by (repeat (first | (with_reducible exact Upd.refl _ _) | (with_reducible assumption) | (with_reducible refine Upd.then_drew ?_) | (with_reducible refine Upd.then_drewN ?_ _) | (with_reducible refine Upd.then_alloc ?_ _) | (with_reducible refine Upd.then_setCell ?_ (fun h => absurd h (by simp <;> omega)) _) | (with_reducible refine Upd.trans ?_ (Upd.non (by assumption)) (fun _ _ h => h))))), fun k hk => by have := hlt.out k hk; simp; omega⟩, by (repeat (first | (with_reducible exact Upd.refl _ _) | (with_reducible assumption) | (with_reducible refine Upd.then_drew ?_) | (with_reducible refine Upd.then_drewN ?_ _) | (with_reducible refine Upd.then_alloc ?_ _) | (with_reducible refine Upd.then_setCell ?_ (fun h => absurd h (by simp <;> omega)) _) | (with_reducible refine Upd.trans ?_ (Upd.non (by assumption)) (fun _ _ h => h)))), by simp⟩
end Go.Proofs.Ytphdclafeijpnaa
