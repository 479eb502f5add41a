/- listing.Page. -/
import Derived.Test.YtphdclafeijpnaaLsH
import Derived.Test.YtphdclafeijpnaaLibB
namespace Go.Proofs.Ytphdclafeijpnaa
open Go.RowKit Go.Amb Go.Shelf
set_option linter.unusedVariables false
set_option linter.unusedSimpArgs false
set_option maxRecDepth 100000
attribute [local go_sem] Oper.semAt_some
/-- A page as a value. -/
def PgAt (w : World) (v : Value) (pg : Pg) : Prop := ∃ nv pv, v = .agg #[nv, pv, txtV pg.x, .bool pg.m] ∧ Txts w nv pg.n ∧ Txts w pv pg.p
def PageRet (w : World) (pg : Pg) (e : Int) (en : Ending) (w' : World) : Prop := ∃ v, en = .returned (.tuple #[v, .int .i64 e]) ∧ PgAt w' v pg ∧ Upd Non w w'
/-- The rows of a page are new. -/
def PgNew (w w' : World) (v : Value) : Prop := ∀ n p x m, v = .agg #[n, p, x, m] → ∀ k, At n k ∨ At p k → w.heap.size ≤ k ∧ k < w'.heap.size
def PageRetN (w : World) (pg : Pg) (e : Int) (en : Ending) (w' : World) : Prop := ∃ v, en = .returned (.tuple #[v, .int .i64 e]) ∧ PgAt w' v pg ∧ Upd Non w w' ∧ PgNew w w' v
theorem pgNew_none (w w' : World) (x m : Value) : PgNew w w' (.agg #[.slice none 0 0, .slice none 0 0, x, m]) := by
  intro n p x' m' e k hk
  injection e with e
  simp at e
  obtain ⟨rfl, rfl, -⟩ := e
  simp [At, Value.ownBlock] at hk
theorem pgNew_own {w w' : World} {a1 a2 : Option Addr} {n1 d1 n2 d2 : Nat} {x m : Value} (h1 : ∀ k, At (.slice a1 n1 d1) k → w.heap.size ≤ k ∧ k < w'.heap.size) (h2 : ∀ k, At (.slice a2 n2 d2) k → w.heap.size ≤ k ∧ k < w'.heap.size) : PgNew w w' (.agg #[.slice a1 n1 d1, .slice a2 n2 d2, x, m]) := by
  intro n p x' m' e k hk
  injection e with e
  simp at e
  obtain ⟨rfl, rfl, -⟩ := e
  exact hk.elim (h1 k) (h2 k)
theorem txts_nil (w : World) : Txts w (.slice none 0 0) [] := Has.nil w 1
theorem pg_none (w : World) : PgAt w (.agg #[.slice none 0 0, .slice none 0 0, .string ⟨#[]⟩, .bool false]) Pg.none := ⟨_, _, rfl, txts_nil w, txts_nil w⟩
theorem rising_no {l : List Str} (k : Nat) (hk : 0 < k) (h : k < l.length) (hn : Op.bytesLess (l[k - 1]'(by omega)) l[k] = false) : ¬ rising l := fun hr => by
  have := hr (k - 1) (by omega)
  have e : k - 1 + 1 = k := by omega
  simp only [e] at this
  rw [hn] at this; cases this
def risTo (l : List Str) (k : Nat) : Prop := ∀ i (h : i + 1 < l.length), i + 1 < k → Op.bytesLess l[i] l[i + 1] = true
theorem risTo.next {l : List Str} {k : Nat} (h : risTo l k) (hk : ∀ (h0 : 0 < k) (h : k < l.length), Op.bytesLess (l[k - 1]'(by omega)) l[k] = true) : risTo l (k + 1) := by
  intro i hi hl
  by_cases e : i + 1 < k
  · exact h i hi e
  · obtain rfl : k = i + 1 := by omega
    exact hk (by omega) hi
set_option maxHeartbeats 2000000 in
theorem lPageArg (nv : Value) (l : List Str) (p d a : Str) (m : Int) (w : World) (hT : Txts w nv l) (hm1 : -9223372036854775808 ≤ m) (hc : ¬ ckOk p d a m) : Calls Try.prog 9 #[nv, txtV p, txtV d, txtV a, .int .i64 m] w (PageRetN w Pg.none 2) := by
  have cC := Lib.hid (fun w => lCheck p d a m w hm1)
  have e2 : ck p d a m = 2 := by unfold ck; rw [if_neg hc]
  rw [e2] at cC
  obtain ⟨va, vc, rfl, -⟩ := txts_at hT
  clear hT hc e2
  generalize l.length = n
  unfold txtV at *
  go_enter Try.func9, Try.ntmps9
  go_wp2_with fail
  refine (cC.out _).mono ?_
  rintro e w1 ⟨rfl, hu1⟩
  have hA := (((Upd.refl Non w).then_alloc (.cells #[.int .i64 m] 3)).then_alloc (.cells #[.slice none 0 0, .slice none 0 0, .string ⟨#[]⟩, .bool false] 26)).trans hu1 fun _ _ h => h
  have hb := hu1.heap (heap_alloc2_new w (.cells #[.int .i64 m] 3) (.cells #[.slice none 0 0, .slice none 0 0, .string ⟨#[]⟩, .bool false] 26)) fun h => h
  have hs4 : (Try.prog.info? 26).map (·.size) = some 4 := by kernel_rfl
  clear hu1
  simp only []
  go_wp2_with (refine storeB_list rfl 26 _ _ rfl (w.heap.size + 1) #[.slice none 0 0, .slice none 0 0, .string ⟨#[]⟩, .bool false] _ _ rfl rfl hb rfl hs4 (by simp [Value.oneCell']) ?_)
  intro w2 hb2 hu2
  have hU2 := hA.trans hu2 (fun k hk e => by omega)
  have x0 := (cells_of hb2).1 0
  have x1 := (cells_of hb2).1 1
  have x2 := (cells_of hb2).1 2
  have x3 := (cells_of hb2).1 3
  clear hb hb2 hu2 hA
  go_wp2_with fail
  refine bodyPost_ret (v := .tuple #[.agg #[.slice none 0 0, .slice none 0 0, .string ⟨#[]⟩, .bool false], .int .i64 2]) (by simp [results, Try.results9, go_sem, x0, x1, x2, x3]; try rfl) rfl ⟨_, rfl, pg_none _, hU2, pgNew_none _ _ _ _⟩
end Go.Proofs.Ytphdclafeijpnaa
