/- The walk of FieldPuts. -/
import Derived.Test.YtgemlapmjbgdkaaFL
import Derived.Test.YtgemlapmjbgdkaaLibB
namespace Go.Proofs.Ytgemlapmjbgdkaa
open Go.RowKit Go.Amb
set_option linter.unusedVariables false
attribute [local go_sem ↓] Go.wp_at_zero Go.wp_at_succ

set_option maxRecDepth 100000 in
set_option maxHeartbeats 2000000 in
theorem puts_in (l s : List UInt8) (v : Value) (n : Int) (w : World) (hl : l.length ≤ 1048576) (hs : s.length ≤ 1048576) (hn : -9223372036854775808 ≤ n ∧ n ≤ 9223372036854775807) (hB : Bytes w v l) :
    Calls Try.prog 3 #[v, .int .i64 n, .string ⟨s.toArray⟩] w (Ret (.bool true) w) := by
  have hi := Lib.hid (@info_u8)
  obtain ⟨hn0, hn1⟩ := hn
  have hstr := run_str (P := Try.prog) _ 22 9 5 Try.underlying22 Try.underlying5 Try.underlying9 _ _ hB
  replace hB := Lib.hid hB
  go_enter Try.func3, Try.ntmps3
  go_wp2_with fail
  clear hstr
  go_loopw [8] (fun i wr => ∃ k : Nat, k ≤ 4 ∧ i = .int .i64 k ∧ Upd Non w wr) (fun i _ => 4 - (intOf i).toNat)
  case atStart => exact ⟨0, by omega, rfl, Upd.refl _ _⟩
  case round =>
    obtain ⟨k, hk, rfl, hu⟩ := hrel
    have hsz := hu.size
    replace hu := Lib.hid hu
    by_cases hlt : k < 4
    · have hlt' : (k : Int) < 4 := by omega
      have hw1 := wid_lt k hlt
      have hwid : IntKind.i64.wrap (2 ^ min (IntKind.u64.wrap (k : Int)).toNat 64) = ((wid k : Nat) : Int) := by
        obtain rfl | rfl | rfl | rfl : k = 0 ∨ k = 1 ∨ k = 2 ∨ k = 3 := by omega
        all_goals decide
      have hcat := ByteArray.mk_append_mk l (fld n (wid k))
      have hcl : l.length + (fld n (wid k)).length ≤ 9223372036854775807 := by rw [fld_length]; omega
      have hap : Hid (l.length + 8 ≤ 140737488355328) := by show l.length + 8 ≤ 140737488355328; omega
      go_wp2_with fail
      replace hcl := Nat.not_lt.2 hcl
      go_region_law (first
        | (refine step_app rfl _ _ 22 22 rfl wr.heap.size 5 (.int .u8 0) 1 1 Try.underlying22 hi.out rfl _ 0 _ rfl ((own_lit0 wr wr.heap.size 5 (Nat.le_refl _)).drew) v l.length (bc l) rfl (Src.ofHas Try.underlying22 (hB.out.upd ((hu.out.then_alloc _).then_drew) fun _ _ h => h) (bc_one l)) (by unfold maxLen; omega) (by omega) (by simp) ?_; intro v1 w1 ho1 hu1 hf1; replace hu1 : Upd (At (.slice (some ⟨wr.heap.size, 0, none⟩) 0 0)) _ w1 := hu1; have ho1' : Own w1 wr.heap.size 5 v1 l := (by have := own_app (l := []) ho1; simpa using this); have hU1 := ((Upd.alloc Non wr _).then_drew).trans hu1 (fun j hj h => by simp [At, Value.ownBlock] at h; omega); have hz1 := hU1.size; replace ho1' := Lib.hid ho1'; replace hU1 := Lib.hid hU1; clear ho1 hu1 hf1)
        | (go_simp; go_at_call 9; refine (lPut wr.heap.size _ _ k n w1 hlt hn0 hn1 ho1'.out hap.out hz1).mono ?_; rintro e w2 ⟨v2, rfl, ho2, hu2, hn2⟩; have hs2 := run_str (P := Try.prog) _ 22 9 5 Try.underlying22 Try.underlying5 Try.underlying9 _ _ ho2.bytes; have hU2 := hU1.out.trans hu2 (fun j hj h => absurd (own_ge ho1'.out h) (by omega)); replace ho2 := Lib.hid ho2; replace hU2 := Lib.hid hU2; clear hu2 hn2)
        | (go_simp; go_at_call 10; refine (refField n (wid k) w2 hn0 hn1 hw1.2).mono ?_; rintro e w3 ⟨rfl, hu3⟩; have hs3 := run_str (P := Try.prog) _ 22 9 5 Try.underlying22 Try.underlying5 Try.underlying9 _ _ (ho2.out.bytes.upd hu3 (fun _ _ h => h)); have hU3 := hU2.out.trans hu3 (fun _ _ h => h); replace hU3 := Lib.hid hU3; clear hu3))
      all_goals
        clear hwid
        go_wp2_with fail
        go_roundw
        case rel => exact ⟨k + 1, by omega, by go_num, hu.out.trans hU3.out fun _ _ h => h⟩
        case measure => simp [intOf]; omega
    · obtain rfl : k = 4 := by omega
      have ht := Lib.hid (refText s)
      have hcat := ByteArray.mk_append_mk l (txt s)
      have hcl : l.length + (txt s).length ≤ 9223372036854775807 := by simp [txt, fld_length]; omega
      have hap : Hid (l.length + s.length + 4 ≤ 140737488355328) := by show l.length + s.length + 4 ≤ 140737488355328; omega
      go_wp2_with fail
      replace hcl := Nat.not_lt.2 hcl
      go_region_law (first
        | (refine step_app rfl _ _ 22 22 rfl wr.heap.size 5 (.int .u8 0) 1 1 Try.underlying22 hi.out rfl _ 0 _ rfl ((own_lit0 wr wr.heap.size 5 (Nat.le_refl _)).drew) v l.length (bc l) rfl (Src.ofHas Try.underlying22 (hB.out.upd ((hu.out.then_alloc _).then_drew) fun _ _ h => h) (bc_one l)) (by unfold maxLen; omega) (by omega) (by simp) ?_; intro v1 w1 ho1 hu1 hf1; replace hu1 : Upd (At (.slice (some ⟨wr.heap.size, 0, none⟩) 0 0)) _ w1 := hu1; have ho1' : Own w1 wr.heap.size 5 v1 l := (by have := own_app (l := []) ho1; simpa using this); have hU1 := ((Upd.alloc Non wr _).then_drew).trans hu1 (fun j hj h => by simp [At, Value.ownBlock] at h; omega); have hz1 := hU1.size; replace ho1' := Lib.hid ho1'; replace hU1 := Lib.hid hU1; clear ho1 hu1 hf1)
        | (go_simp; go_at_call 11; refine (PutText wr.heap.size _ _ s w1 ho1'.out hap.out hz1).mono ?_; rintro e w2 ⟨v2, rfl, ho2, hu2, hn2⟩; replace ho2 : Own w2 wr.heap.size 5 v2 (l ++ txt s) := ho2; have hs2 := run_str (P := Try.prog) _ 22 9 5 Try.underlying22 Try.underlying5 Try.underlying9 _ _ ho2.bytes; have hU2 := hU1.out.trans hu2 (fun j hj h => absurd (own_ge ho1'.out h) (by omega)); replace ho2 := Lib.hid ho2; replace hU2 := Lib.hid hU2; clear hu2 hn2)
        | (go_simp; go_at_call 12; refine (refText s w2 (by omega)).mono ?_; rintro e w3 ⟨rfl, hu3⟩; have hs3 := run_str (P := Try.prog) _ 22 9 5 Try.underlying22 Try.underlying5 Try.underlying9 _ _ (ho2.out.bytes.upd hu3 (fun _ _ h => h)); have hU3 := hU2.out.trans hu3 (fun _ _ h => h); replace hU3 := Lib.hid hU3; clear hu3)
        | (go_simp; go_at_call 13; refine (lives01 w3).mono ?_; rintro e w4 ⟨rfl, hu4⟩; have hU4 := hU3.out.trans hu4 (fun _ _ h => h); replace hU4 := Lib.hid hU4; clear hu4))
      all_goals
        go_wp2_with fail
        go_ret
        exact ⟨rfl, hu.out.trans hU4.out fun _ _ h => h⟩
end Go.Proofs.Ytgemlapmjbgdkaa
