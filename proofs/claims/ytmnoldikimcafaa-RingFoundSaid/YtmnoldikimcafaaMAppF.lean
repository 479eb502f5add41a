/- append to a slice that is full (s[:n:n]): the row is a new one. No program stands here. -/
import Derived.Test.YtmnoldikimcafaaMLib
namespace Go.Amb
open Go.RowKit
set_option linter.unusedVariables false
theorem run_full {P : Program} (w : World) (t tx ty e : TypeId) (i : TypeInfo) (z : Value) (size bytes : Nat) (ht : P.underlying t = some (.slice e)) (hi : P.info? e = some i) (hz : i.zero = some z)
    (hsize : i.size = size) (hby : i.bytes = bytes) (hzs : z.cells.size = size)
    (a : Option Addr) (n c : Nat) (xs : List Value) (h : Has w size (.slice a n c) n xs) (hc : n = c) (x : Value) (m : Nat) (news : List Value) (hs : Src P size tx x m news w) (hm : 0 < m)
    (h63 : n + m ≤ maxLen) (hbytes : (n + m) * bytes ≤ 140737488355328) :
    ∃ v' w', (Builtin.append_ #[t, tx] ty #[.slice a n c, x]).run P w = .ok v' w' ∧ w'.ownsRow w.heap.size e size v' (n + m) (xs ++ news) ∧ Upd Non w w' ∧ (∀ k, At v' k → w.heap.size ≤ k) := by
  subst hsize
  subst hby
  subst hc
  obtain ⟨hxl, a', c', e1, h1, h2, h3⟩ := h
  injection e1 with e1 e2 e3
  subst e1 e3
  have hl := hs.newsLen
  have hlen : (xs ++ news).length = (n + m) * i.size := by rw [List.length_append, hxl, hl, Nat.add_mul]
  have grown : (w.drew.alloc (.cells ((xs ++ news).toArray ++ Builtin.zeroCells z.cells (grownCap w (n + m) n e - (n + m))) e)).ownsRow w.heap.size e i.size
        (.slice (some ⟨w.heap.size, 0, none⟩) (n + m) (grownCap w (n + m) n e)) (n + m) (xs ++ news) := by
    have hge := grownCap_ge w (n + m) n e
    have hcm : grownCap w (n + m) n e ≤ maxLen := grownCap_le_maxLen w (n + m) n e h63
    refine ⟨hlen, .inr ⟨w.heap.size, _, _, rfl, Nat.le_refl _, heap_alloc_new w.drew _, hge, hcm, ?_, ?_⟩⟩
    · simp only [Array.size_append, List.size_toArray, size_zeroCells, hzs, hlen, ← Nat.add_mul]
      congr 1
      omega
    · simp only [Array.toList_append]
      rw [← hlen]
      exact List.take_left
  have h64 : ((n + m : Nat) : Int) ≤ 9223372036854775807 := by simp only [maxLen] at h63; omega
  have hold : (Builtin.firstCells i.size n (.slice a n n)).run P w.drew = .ok xs.toArray w.drew := by
    rcases h3 with h0 | ⟨g, off, rfl, hcells⟩
    · subst h0
      obtain rfl : xs = [] := List.eq_nil_of_length_eq_zero (by simpa using hxl)
      cases a with
      | none => exact run_firstCells_none w.drew i.size 0 0 0
      | some a => exact run_firstCells_some w.drew i.size 0 a 0 0 [] (by simp) (fun j u h => by simp at h)
    · exact run_firstCells_some w.drew i.size n ⟨g, off, none⟩ n n xs hxl (fun j u hj => by rw [Addr.add_lit]; exact hcells j u hj)
  have hr := run_append_grow_src (P := P) (ty := ty) w t tx e i z ht hi hz a n n xs hold x m news hs (by omega) h64 (growslice_fits (by omega) hbytes)
  exact ⟨_, _, hr, grown, (Upd.drew _ _).then_alloc _, fun k hk => by simp [At, Value.ownBlock] at hk; omega⟩
/-- 'append(s[:n:n], x)' at a step of a region that draws its order; x lies in a new block of one element. -/
theorem step_full1 {P : Program} {w : World} {ops : Array Oper} {o : Oper} {a : Act} {K : Act → World → Prop} {Q : Exit → Act → World → Prop} {E : Prop} (hgd : o.guard = none) (s x : Operand) (t : TypeId)
    (ho : o.op = .call { callee := .builtin .append, args := #[s, x], argTypes := #[t, t] })
    (e : TypeId) (z : Value) (size bytes : Nat) (ht : P.underlying t = some (.slice e)) (hinfo : (P.info? e).map (fun i => (i.zero, i.size, i.bytes)) = some (some z, size, bytes))
    (hzs : z.cells.size = size) (va : Option Addr) (n : Nat) (xs : List Value) (hs : a.eval s = .slice va n n) (hown : Has w size (.slice va n n) n xs) (cs : List Value) (N : Nat)
    (hx : a.eval x = .slice (some ⟨N, 0, none⟩) 1 1) (hN : N = w.heap.size) (hl : cs.length = size) (h1 : ∀ u ∈ cs, u.oneCell' = true)
    (h63 : n + 1 ≤ maxLen) (hbytes : (n + 1) * bytes ≤ 140737488355328)
    (h : ∀ v' w', w'.ownsRow w.heap.size e size v' (n + 1) (xs ++ cs) → Upd Non w w' → (∀ k, At v' k → w.heap.size ≤ k) → K (a.put o.dst v') w') :
    if Region.wanted o (yielded ops a.tmps) = true then Oper.wp P o a (w.alloc (.cells cs.toArray e)) K Q else E := by
  subst hN
  have hw : Region.wanted o (yielded ops a.tmps) = true := by simp [Region.wanted, hgd]
  rw [if_pos hw]
  obtain ⟨i, hi, hz, hsize, hby⟩ := info_parts hinfo
  have hsrc : Src P size t (.slice (some ⟨w.heap.size, 0, none⟩) 1 1) 1 cs (w.alloc (.cells cs.toArray e)) := Src.ofHas ht (has_new w cs e size 1 (by omega) (by unfold maxLen; omega)) h1
  obtain ⟨v', w', hr, h2, h3, h4⟩ := run_full (P := P) (w.alloc (.cells cs.toArray e)) t t o.type e i z size bytes ht hi hz hsize hby hzs va n n xs (hown.upd (Upd.alloc Non w _) fun _ _ h => h) rfl _ 1 cs hsrc (by omega) h63 hbytes
  unfold Oper.wp execOp
  simp only [ho, resolve, invoke, builtin, Sem.run_bind, Sem.run_pure, Result.andThen_ok, List.map_toArray, List.map_cons, List.map_nil, hs, hx, hr]
  have hz0 : (w.alloc (.cells cs.toArray e)).heap.size = w.heap.size + 1 := by simp
  exact h v' w' (owns_mono h2 fun k hk => by have := h4 k hk; omega) ((Upd.alloc Non w _).trans h3 fun _ _ h => h) fun k hk => by have := h4 k hk; omega
end Go.Amb
