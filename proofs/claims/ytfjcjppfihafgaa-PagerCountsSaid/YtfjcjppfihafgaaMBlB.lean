/- A disk in memory. -/
import Derived.Test.YtfjcjppfihafgaaMBlA
import Derived.Test.YtfjcjppfihafgaaMLibC
import Derived.Test.YtfjcjppfihafgaaRows
namespace Go.Amb
open Go.RowKit
set_option linter.unusedVariables false
/-- What a disk has: its sectors, what is pending, the fuse, whether it is dead. -/
structure Dk where
  K : List (List UInt8)
  P : List (List UInt8 × Nat)
  f : Int
  dd : Bool
def pc (p : List UInt8 × Nat) : List Value := bc p.1 ++ [.int .i64 (p.2 : Int)]
structure Dk.Ok (d : Dk) : Prop where
  n1 : 1 ≤ d.K.length
  n2 : d.K.length ≤ 16384
  k : ∀ s ∈ d.K, s.length = 128
  p : ∀ p ∈ d.P, p.1.length = 128 ∧ p.2 < d.K.length
  f1 : -1 ≤ d.f
  f2 : d.f < 9223372036854775808
theorem Dk.Ok.kl {d : Dk} (h : d.Ok) : ∀ s ∈ d.K.map bc, s.length = 128 := by
  intro s hs
  obtain ⟨x, hx, rfl⟩ := List.mem_map.1 hs
  rw [bc_length]; exact h.k x hx
theorem Dk.Ok.pl {d : Dk} (h : d.Ok) : ∀ s ∈ d.P.map pc, s.length = 129 := by
  intro s hs
  obtain ⟨x, hx, rfl⟩ := List.mem_map.1 hs
  simp [pc, bc_length, (h.p x hx).1]
def Dk.may (d : Dk) : Int := if d.dd then 20 else 0
def Dk.within (d : Dk) (i : Int) : Int := if d.dd then 20 else if i < 0 ∨ (d.K.length : Int) ≤ i then 6 else 0
def Dk.burn (d : Dk) : Dk × Int := if d.f = 0 then ({ d with dd := true }, 20) else if 0 < d.f then ({ d with f := d.f - 1 }, 0) else (d, 0)
def lastAt (P : List (List UInt8 × Nat)) (i : Nat) : Option (List UInt8) := (P.reverse.find? fun p => decide (p.2 = i)).map (·.1)
def Dk.has (d : Dk) (i : Nat) : List UInt8 := (lastAt d.P i).getD (d.K.getD i [])
def full (s : List UInt8) : List UInt8 := s ++ List.replicate (128 - s.length) 0
def Dk.write (d : Dk) (i : Int) (s : List UInt8) : Dk × Int :=
  if d.within i ≠ 0 then (d, d.within i) else if 128 < s.length then (d, 5) else
  if d.burn.2 ≠ 0 then d.burn else ({ d.burn.1 with P := d.burn.1.P ++ [(full s, i.toNat)] }, 0)
/-- The sectors behind the first k pending writes, those kept that are picked. -/
def keepK (K : List (List UInt8)) (P : List (List UInt8 × Nat)) (pick : Nat → Bool) : Nat → List (List UInt8)
  | 0 => K
  | k + 1 => match P[k]? with
    | some p => if pick k then (keepK K P pick k).set p.2 p.1 else keepK K P pick k
    | none => keepK K P pick k
def Dk.keep (d : Dk) (pick : Nat → Bool) : Dk := { d with K := keepK d.K d.P pick d.P.length, P := [] }
def Dk.flush (d : Dk) : Dk × Int := if d.dd then (d, 20) else if d.burn.2 ≠ 0 then d.burn else (d.burn.1.keep fun _ => true, 0)
def Dk.arm (d : Dk) (n : Int) : Dk × Int := if d.dd then (d, 20) else ({ d with f := max (-1) n }, 0)
def Dk.crash (d : Dk) (l : List Int) : Dk := { d.keep fun k => decide ((k : Int) ∈ l) with f := -1, dd := false }
theorem keepK_length (K : List (List UInt8)) (P : List (List UInt8 × Nat)) (pick : Nat → Bool) : ∀ k, (keepK K P pick k).length = K.length
  | 0 => rfl
  | k + 1 => by
    rw [keepK]
    split
    · split
      · rw [List.length_set, keepK_length K P pick k]
      · exact keepK_length K P pick k
    · exact keepK_length K P pick k
theorem keepK_mem {K : List (List UInt8)} {P : List (List UInt8 × Nat)} (pick : Nat → Bool) (hK : ∀ s ∈ K, s.length = 128) (hP : ∀ p ∈ P, p.1.length = 128) : ∀ k, ∀ s ∈ keepK K P pick k, s.length = 128
  | 0 => hK
  | k + 1 => by
    rw [keepK]
    split
    · rename_i p hp
      split
      · intro s hs
        rcases List.mem_or_eq_of_mem_set hs with h | rfl
        · exact keepK_mem pick hK hP k s h
        · exact hP p (List.mem_of_getElem? hp)
      · exact keepK_mem pick hK hP k
    · exact keepK_mem pick hK hP k
theorem full_length {s : List UInt8} (h : s.length ≤ 128) : (full s).length = 128 := by
  unfold full; rw [List.length_append, List.length_replicate]; omega
theorem Dk.Ok.burn {d : Dk} (h : d.Ok) : d.burn.1.Ok := by
  unfold Dk.burn
  split
  · exact ⟨h.n1, h.n2, h.k, h.p, h.f1, h.f2⟩
  · split
    · exact ⟨h.n1, h.n2, h.k, h.p, by have := h.f1; simp only; omega, by have := h.f2; simp only; omega⟩
    · exact h
theorem Dk.burn_K (d : Dk) : d.burn.1.K = d.K := by unfold Dk.burn; split; rfl; split <;> rfl
theorem Dk.burn_P (d : Dk) : d.burn.1.P = d.P := by unfold Dk.burn; split; rfl; split <;> rfl
theorem Dk.within_0 {d : Dk} {i : Int} (h : d.within i = 0) : d.dd = false ∧ 0 ≤ i ∧ i < d.K.length := by
  unfold Dk.within at h
  split at h
  · cases h
  · split at h
    · cases h
    · rename_i h1 h2
      exact ⟨by simpa using h1, by omega, by omega⟩
theorem Dk.Ok.write {d : Dk} (h : d.Ok) (i : Int) (s : List UInt8) : (d.write i s).1.Ok := by
  unfold Dk.write
  split
  · exact h
  · rename_i hw
    split
    · exact h
    · rename_i hs
      split
      · exact h.burn
      · have hb := h.burn
        have hw' := Dk.within_0 (Decidable.not_not.1 hw)
        refine ⟨hb.n1, hb.n2, hb.k, fun p hp => ?_, hb.f1, hb.f2⟩
        rcases List.mem_append.1 hp with hp | hp
        · exact hb.p p hp
        · rw [List.mem_singleton] at hp
          subst hp
          exact ⟨full_length (by omega), by simp only [Dk.burn_K]; omega⟩
theorem Dk.Ok.keep {d : Dk} (h : d.Ok) (pick : Nat → Bool) : (d.keep pick).Ok := by
  unfold Dk.keep
  refine ⟨by rw [keepK_length]; exact h.n1, by rw [keepK_length]; exact h.n2, keepK_mem pick h.k (fun p hp => (h.p p hp).1) _, fun p hp => (by cases hp), h.f1, h.f2⟩
theorem Dk.Ok.flush {d : Dk} (h : d.Ok) : d.flush.1.Ok := by
  unfold Dk.flush
  split
  · exact h
  · split
    · exact h.burn
    · exact h.burn.keep _
theorem Dk.Ok.arm {d : Dk} (h : d.Ok) {n : Int} (hn : n < 9223372036854775808) : (d.arm n).1.Ok := by
  unfold Dk.arm
  split
  · exact h
  · exact ⟨h.n1, h.n2, h.k, h.p, by simp only; omega, by simp only; omega⟩
theorem Dk.Ok.crash {d : Dk} (h : d.Ok) (l : List Int) : (d.crash l).Ok := by
  have := h.keep fun k => decide ((k : Int) ∈ l)
  exact ⟨this.n1, this.n2, this.k, this.p, by simp [Dk.crash], by simp [Dk.crash]⟩
end Go.Amb
namespace Go.Proofs.Ytfjcjppfihafgaa
set_option maxRecDepth 100000
open Go.RowKit Go.Amb
set_option linter.unusedVariables false
/-- A disk at block D; F: the blocks that it has. -/
structure DiskAt (w : World) (D : Nat) (F : Nat → Prop) (d : Dk) : Prop where
  ok : d.Ok
  ex : ∃ g ck pv, w.heap[D]? = some (.cells #[.slice (some ⟨g, 0, none⟩) d.K.length ck, pv, .int .i64 d.f, .bool d.dd] 73 (0, 0)) ∧
    w.ownsRow 0 82 128 (.slice (some ⟨g, 0, none⟩) d.K.length ck) d.K.length (d.K.map bc).flatten ∧ w.ownsRow 0 87 129 pv d.P.length (d.P.map pc).flatten ∧
    g ≠ D ∧ ¬ At pv D ∧ ¬ At pv g ∧ (∀ k, F k ↔ k = D ∨ k = g ∨ At pv k)
theorem DiskAt.upd {S : Nat → Prop} {w w' : World} {D : Nat} {F : Nat → Prop} {d : Dk} (h : DiskAt w D F d) (hu : Upd S w w') (hS : ∀ k, F k → ¬ S k) : DiskAt w' D F d := by
  obtain ⟨g, ck, pv, hX, hK, hP, h1, h2, h3, hF⟩ := h.ex
  exact ⟨h.ok, g, ck, pv, hu.heap hX (hS _ ((hF _).2 (.inl rfl))), hu.owns hK (fun k hk => hS k ((hF k).2 (.inr (.inl (by simpa [At, Value.ownBlock, eq_comm] using hk))))), hu.owns hP (fun k hk => hS k ((hF k).2 (.inr (.inr hk)))), h1, h2, h3, hF⟩
theorem DiskAt.non {w w' : World} {D : Nat} {F : Nat → Prop} {d : Dk} (h : DiskAt w D F d) (hu : Upd Non w w') : DiskAt w' D F d := h.upd hu fun _ _ h => h
theorem DiskAt.lt {w : World} {D : Nat} {F : Nat → Prop} {d : Dk} (h : DiskAt w D F d) : ∀ k, F k → k < w.heap.size := by
  obtain ⟨g, ck, pv, hX, hK, hP, h1, h2, h3, hF⟩ := h.ex
  intro k hk
  rcases (hF k).1 hk with rfl | rfl | hk
  · exact heap_lt hX
  · exact own_lt hK rfl
  · exact own_lt hP hk
theorem DiskAt.dF {w : World} {D : Nat} {F : Nat → Prop} {d : Dk} (h : DiskAt w D F d) : F D := by
  obtain ⟨g, ck, pv, hX, hK, hP, h1, h2, h3, hF⟩ := h.ex
  exact (hF D).2 (.inl rfl)
/-- What a step on a disk leaves: it answers v, the disk is d' then; only the disk's blocks were written, and new ones may be the disk's. -/
def Stepped (w : World) (D : Nat) (F : Nat → Prop) (d' : Dk) (v : Value) : Ending → World → Prop := fun en w' =>
  en = .returned v ∧ ∃ F', DiskAt w' D F' d' ∧ Upd F w w' ∧ ∀ k, F' k → F k ∨ w.heap.size ≤ k
end Go.Proofs.Ytfjcjppfihafgaa
