/- The reference's Right, Check; slot.flags. -/
import Derived.Test.YtmnoldikimcafaaMSlE
import Derived.Test.YtmnoldikimcafaaMLib
namespace Go.Proofs.Ytmnoldikimcafaa
set_option maxRecDepth 100000
open Go.RowKit Go.Amb Go.Shelf
set_option linter.unusedVariables false
set_option linter.unusedSimpArgs false
/-- A slot's flags. -/
def flagS (f l : Bool) : Nat := (if f then 1 else 0) + (if l then 2 else 0)
theorem lFlags (x : S5) (w : World) : Calls Try.prog 46 #[x.v] w (Ret (.int .i64 (flagS x.f x.l : Nat)) w) := by
  obtain ⟨e, q, f, l, d⟩ := x
  have k1 : bits .or .i64 0 1 = 1 := by decide
  have k2 : bits .or .i64 0 2 = 2 := by decide
  have k3 : bits .or .i64 1 2 = 3 := by decide
  cases f <;> cases l
  all_goals
    go_enter Try.func46, Try.ntmps46
    go_wp2_with fail
    go_ret
    exact ⟨rfl, (Upd.refl _ _).then_alloc _⟩
end Go.Proofs.Ytmnoldikimcafaa

namespace Go.Amb
open Go.RowKit
set_option linter.unusedVariables false
set_option linter.unusedSimpArgs false
theorem zero_cells (n : Nat) : byteCells ⟨(List.replicate n 0).toArray⟩ = (Builtin.zeroCells (#[.int .u8 0] : Array Value) n).toList := by
  apply List.ext_getElem?
  intro k
  simp [byteCells, Builtin.zeroCells]
  by_cases h : k < n
  · simp [h, Nat.mod_one]
  · simp [h]
theorem run_zeros {P : Program} (w : World) (t ti ts e ty : TypeId) (i : TypeInfo) (ht : P.underlying t = some (.slice e)) (hti : P.underlying ti = some (.int .i64)) (hts : P.underlying ts = some .string) (hi : P.info? e = some i) (hz : i.zero = some (.int .u8 0)) (hs : i.size = 1) (hb : i.bytes = 1)
    (b : Option Addr) (l c n : Nat) (h : l + n ≤ 1000000) : (Builtin.append_ #[t, ti] ty #[.slice b l c, .int .i64 (n : Int)]).run P w = (Builtin.append_ #[t, ts] ty #[.slice b l c, .string ⟨(List.replicate n 0).toArray⟩]).run P w := by
  have hw : IntKind.i64.wrap (n : Int) = (n : Int) := IntWalk.i64_in _ ⟨by omega, by omega⟩
  have h0 : ¬ (n : Int) < 0 := by omega
  have h1 : ¬ (281474976710656 : Int) < (n : Int) := by omega
  have hf : ∀ w', (Builtin.firstCells 1 n (.string ⟨(List.replicate n 0).toArray⟩)).run P w' = .ok (Builtin.zeroCells (#[.int .u8 0] : Array Value) n) w' := fun w' => by
    have := firstCells_string (P := P) ⟨(List.replicate n 0).toArray⟩ w'
    rw [zero_cells, show ByteArray.size ⟨(List.replicate n 0).toArray⟩ = n by simp [ByteArray.size]] at this
    simpa using this
  have hsz : ByteArray.size ⟨(List.replicate n 0).toArray⟩ = n := by simp [ByteArray.size]
  have hzc : (Value.int IntKind.u8 0).cells = #[.int .u8 0] := rfl
  have hsz2 : ByteArray.size ⟨Array.replicate n 0⟩ = n := by simp [ByteArray.size]
  have hf2 : ∀ w', (Builtin.firstCells 1 n (.string ⟨Array.replicate n 0⟩)).run P w' = .ok (Builtin.zeroCells (#[.int .u8 0] : Array Value) n) w' := fun w' => by
    have := hf w'
    rwa [List.toArray_replicate] at this
  have h2 : ¬ (9223372036854775807 : Int) < (l : Int) + (n : Int) := by omega
  have hw0 : IntKind.i64.wrap 0 = 0 := rfl
  have he0 : ByteArray.size ⟨#[]⟩ = 0 := rfl
  by_cases hroom : l + n ≤ c
  · by_cases hn : n = 0
    · subst hn
      have hroom2 : l ≤ c := hroom
      have hf0 : ∀ w', (Builtin.firstCells 1 0 (.string ⟨#[]⟩)).run P w' = .ok #[] w' := fun w' => by have := hf2 w'; rw [show Builtin.zeroCells (#[.int .u8 0] : Array Value) 0 = #[] by simp [Builtin.zeroCells]] at this; exact this
      simp [Builtin.append_, run_underlying ht, run_underlying hti, run_underlying hts, sizeOf, typeInfo, hi, hs, hb, hz, hw0, asInt, asIntOf, zeroValue, Builtin.lenOf, hf, hsz, hzc, hsz2, hf2, h2, he0, hroom2, hf0]
    · have hn1 : ¬ (n : Int) ≤ 0 := by omega
      simp [Builtin.append_, run_underlying ht, run_underlying hti, run_underlying hts, sizeOf, typeInfo, hi, hs, hb, hz, hw, h0, h1, asInt, asIntOf, zeroValue, Builtin.lenOf, hf, hsz, hzc, hn, hn1, hsz2, hf2, h2, hroom]
  · have h3 : ¬ 281474976710656 < Builtin.nextslicecap (l + n) c := by
      have := growslice_fits (need := l + n) (bytes := 1) (old := c) (by omega) (by omega)
      omega
    by_cases hn : n = 0
    · subst hn
      have hroom2 : ¬ l ≤ c := hroom
      have hf0 : ∀ w', (Builtin.firstCells 1 0 (.string ⟨#[]⟩)).run P w' = .ok #[] w' := fun w' => by have := hf2 w'; rw [show Builtin.zeroCells (#[.int .u8 0] : Array Value) 0 = #[] by simp [Builtin.zeroCells]] at this; exact this
      have h3' : ¬ 281474976710656 < Builtin.nextslicecap l c := h3
      have h2' : ¬ (9223372036854775807 : Int) < (l : Int) := by omega
      simp [Builtin.append_, run_underlying ht, run_underlying hti, run_underlying hts, sizeOf, typeInfo, hi, hs, hb, hz, hw0, asInt, asIntOf, zeroValue, Builtin.lenOf, hf, hsz, hzc, hsz2, hf2, h2', he0, hroom2, h3', hf0]
    · have hn1 : ¬ (n : Int) ≤ 0 := by omega
      simp [Builtin.append_, run_underlying ht, run_underlying hti, run_underlying hts, sizeOf, typeInfo, hi, hs, hb, hz, hw, h0, h1, asInt, asIntOf, zeroValue, Builtin.lenOf, hf, hsz, hzc, hn, hn1, hsz2, hf2, h2, hroom, h3]
theorem own_slice {w : World} {base : Nat} {e : TypeId} {size : Nat} {v : Value} {n : Nat} {xs : List Value} (h : w.ownsRow base e size v n xs) : ∃ b c, v = .slice b n c := by
  rcases h.2 with ⟨rfl, rfl⟩ | ⟨g, cap, cur, rfl, _⟩
  · exact ⟨none, 0, rfl⟩
  · exact ⟨_, _, rfl⟩
theorem wpList_appz {P : Program} {w : World} {ops : Array Oper} {rest : List Oper} {o : Oper} {a : Act} {Q : Exit → Act → World → Prop} (hgd : o.guard = none) (s x : Operand) (t ti ts : TypeId)
    (ho : o.op = .call { callee := .builtin .append, args := #[s, x], argTypes := #[t, ti] })
    (base : Nat) (e : TypeId) (ht : P.underlying t = some (.slice e)) (hti : P.underlying ti = some (.int .i64)) (hts : P.underlying ts = some .string) (hinfo : (P.info? e).map (fun i => (i.zero, i.size, i.bytes)) = some (some (.int .u8 0), 1, 1))
    (v : Value) (l : List UInt8) (hs : a.eval s = v) (hown : Own w base e v l) (m : Nat) (hx : a.eval x = .int .i64 (m : Int)) (hm : l.length + m ≤ 1000000) (hbase : base ≤ w.heap.size)
    (h : ∀ v' w', Own w' base e v' (l ++ List.replicate m 0) → Upd (At v) w w' → (∀ k, At v' k → At v k ∨ w.heap.size ≤ k) → wpList P ops Q rest (a.put o.dst v') w') : wpList P ops Q (o :: rest) a w := by
  obtain ⟨i, hi, hz, hsize, hby⟩ := info_parts hinfo
  refine wpList_plain hgd fun K hK => ?_
  have hsrc := Src.ofString (P := P) (tx := ts) w hts ⟨(List.replicate m 0).toArray⟩
  rw [show ByteArray.size ⟨(List.replicate m 0).toArray⟩ = m by simp [ByteArray.size]] at hsrc
  obtain ⟨v', w', hr, h2, h3, h4, _⟩ := run_app (P := P) w base t ts o.type e i (.int .u8 0) 1 1 ht hi hz hsize hby rfl v l.length (bc l) hown _ m _ hsrc (by unfold maxLen; omega) (by omega) hbase
  obtain ⟨b, c, rfl⟩ := own_slice hown
  have hr2 := (run_zeros (P := P) w t ti ts e o.type i ht hti hts hi hz hsize hby b l.length c m hm).trans hr
  have h2' : Own w' base e v' (l ++ List.replicate m 0) := by
    refine own_app (N := l.length + m) ?_
    rw [show bc (List.replicate m 0) = byteCells ⟨(List.replicate m 0).toArray⟩ by rw [zero_cells]; simp [bc, Builtin.zeroCells]; apply List.ext_getElem? ; intro k; by_cases hk : k < m <;> simp [hk, Nat.mod_one]]
    exact h2
  unfold Oper.wp execOp
  simp only [ho, resolve, invoke, builtin, Sem.run_bind, Sem.run_pure, Result.andThen_ok, List.map_toArray, List.map_cons, List.map_nil, hs, hx, hr2]
  exact hK _ _ (h v' w' h2' h3 h4)
end Go.Amb
