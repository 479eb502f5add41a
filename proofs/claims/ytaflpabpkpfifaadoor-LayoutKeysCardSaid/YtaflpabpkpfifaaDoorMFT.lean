/- The walks over the readers of package field: the making of one, what it tells; of none. -/
import Derived.Test.YtaflpabpkpfifaaDoorMFS
namespace Go.Proofs.YtaflpabpkpfifaaDoor
set_option maxRecDepth 100000
open Go.RowKit Go.Amb
variable {L : Nat}
attribute [local go_sem ↓] Go.wp_at_zero Go.wp_at_succ

/-- What a copying call leaves. -/
def Copied (s : List UInt8) (w : World) (e : Ending) (w' : World) : Prop := ∃ v', e = .returned v' ∧ Bytes w' v' s ∧ Upd Non w w' ∧ ∀ k, At v' k → w.heap.size ≤ k ∧ k < w'.heap.size

theorem bytes_cases {w : World} {v : Value} {s : List UInt8} (h : Bytes w v s) : (∃ c, v = .slice none 0 c ∧ s = []) ∨ ∃ ad c, v = .slice (some ad) s.length c := by
  obtain ⟨hl, a, c, rfl, h1, h2, h3⟩ := h
  cases a with
  | some ad => exact .inr ⟨ad, c, rfl⟩
  | none =>
    refine .inl ⟨c, ?_⟩
    rcases h3 with h3 | ⟨g, off, h, _⟩
    · have := List.eq_nil_of_length_eq_zero h3
      subst this
      exact ⟨rfl, rfl⟩
    · cases h

set_option maxHeartbeats 800000 in
theorem sClone (v : Value) (s : List UInt8) (w : World) (hB : Bytes w v s) (hs : s.length ≤ 140737488355328) :
    Calls Tryd.prog 67 #[v] w (Copied s w) := by
  have hi := Lib.hid (@info_u8)
  have hB' := Lib.hid hB
  have hsl : ∀ (w : World) a n c, (binOp .eql 86 (.slice a n c) (.slice none 0 0)).run Tryd.prog w = .ok (.bool a.isNone) w := fun w a n c => Lib.run_eql_slice_nil w _ 5 a n c 0 0 Tryd.underlying86
  rcases bytes_cases hB with ⟨c, rfl, rfl⟩ | ⟨ad, c, rfl⟩
  · clear hB
    go_enter Tryd.func67, Tryd.ntmps67
    go_wp2_with fail
    go_ret
    exact ⟨_, rfl, Has.nil w 1, Upd.refl _ _, fun k h => by cases h⟩
  · clear hB
    go_enter Tryd.func67, Tryd.ntmps67
    go_wp2_with (at_builtin; go_must (refine wpList_app rfl _ _ 86 86 rfl w.heap.size 5 (.int .u8 0) 1 1 Tryd.underlying86 hi.out rfl _ _ _ rfl (own_lit0 w w.heap.size 5 (Nat.le_refl _)) _ s.length (bc s) rfl (Src.ofHas Tryd.underlying86 (hB'.out.upd (Upd.alloc Non w _) fun _ _ h => h) (bc_one s)) ?h63 ?hby (by simp) ?_))
    case h63 => simp; unfold maxLen; omega
    case hby => simp; omega
    intro v' w' ho hu hf
    go_wp2_with fail
    go_ret
    have ho' : Own w' w.heap.size 5 v' s := by have := own_app (l := []) ho; simpa using this
    exact ⟨_, rfl, ho'.bytes, (Upd.alloc Non w _).trans hu fun j hj h => by simp [At, Value.ownBlock] at h; omega, fun k hk => ⟨own_ge ho hk, own_lt ho hk⟩⟩

theorem bytes_form {w : World} {v : Value} {s : List UInt8} (h : Bytes w v s) : ∃ a c, v = .slice a s.length c := by
  obtain ⟨hl, a, c, rfl, h1, h2, h3⟩ := h
  exact ⟨a, c, rfl⟩

set_option maxHeartbeats 800000 in
theorem fNewReader (v : Value) (s : List UInt8) (w : World) (hB : Bytes w v s) (hs : s.length ≤ 140737488355328) :
    Calls Tryd.prog 47 #[v] w fun e w' => ∃ r, e = .returned (.pointer (some ⟨r, 0, none⟩)) ∧ RdAt w' r w.heap.size s 0 0 ∧ Upd Non w w' ∧ w.heap.size ≤ r := by
  go_enter Tryd.func47, Tryd.ntmps47
  go_wp2_with fail
  refine (sClone v s w hB hs).mono ?_
  rintro e w1 ⟨v1, rfl, hB1, hu, hn⟩
  obtain ⟨a, c, hv⟩ := bytes_form hB1
  subst hv
  replace hB1 := Lib.hid hB1
  go_wp2_with fail
  go_ret
  have hB1 := hB1.out
  have hsz := hu.size
  refine ⟨w1.heap.size, rfl, ⟨hs, Nat.zero_le _, _, heap_alloc_new _ _, hB1.upd (Upd.alloc Non _ _) fun _ _ h => h, fun k hk => ?_, hsz⟩, hu.then_alloc _, by omega⟩
  have := hn k hk
  omega

end Go.Proofs.YtaflpabpkpfifaaDoor
