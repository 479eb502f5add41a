/- The examples of layer 1. -/
import Derived.Test.YtgemlapmjbgdkaaFU
import Derived.Lib.SlBytesConst
namespace Go.Proofs.Ytgemlapmjbgdkaa
open Go.RowKit Go.Amb
variable {L : Nat}
attribute [local go_sem ↓] Go.wp_at_zero Go.wp_at_succ

theorem bytes_const (w : World) (e : TypeId) (l : List UInt8) (m : Nat × Nat) (h : l.length ≤ maxLen) : Bytes (w.alloc (.cells (bc l).toArray e m)) (.slice (some ⟨w.heap.size, 0, none⟩) l.length l.length) l :=
  ⟨by rw [bc_length, Nat.mul_one], _, _, rfl, Nat.le_refl _, h, .inr ⟨w.heap.size, 0, rfl, fun j u hj => by
    rw [Nat.zero_add, World.cell?_alloc_mark]; simpa using hj⟩⟩

set_option maxHeartbeats 800000 in
theorem lives01 (w : World) : Calls Try.prog 13 #[] w (Ret (.bool true) w) := by
  have kc := fun (w : World) (C : Array Value) (n c : Nat) => Lib.run_convert_bytes_const (P := Try.prog) w 22 5 C n c Try.underlying22 Try.underlying5
  go_enter Try.func13, Try.ntmps13
  go_wp2_with fail
  refine (fNewReader _ [0, 0, 0, 2, 97, 98] _ (bytes_const w 5 [0, 0, 0, 2, 97, 98] (6, 7) (by unfold maxLen; decide)) (by decide)).mono ?_
  rintro e w1 ⟨r, rfl, hr, hu, hlt⟩
  have hu1 : Upd Non w w1 := (Upd.alloc Non w _).trans hu fun _ _ h => h
  clear hu
  go_wp2_with fail
  refine (fText r _ 0 0 1 w1 hr).mono ?_
  rintro e w2 ⟨rfl, hr2, hu⟩
  have e1 : rdText [0, 0, 0, 2, 97, 98] 0 0 1 = (0, 5, []) := by decide
  rw [e1] at hr2
  rw [e1]
  clear e1 hr
  have hu2 : Upd Non w w2 := hu1.trans hu fun j hj h => by simp at hlt; omega
  clear hu hu1
  go_wp2_with fail
  refine (Put16 w2.heap.size _ [] 258 w2 (by decide) (by decide) (World.ownsRow_nil _ _ _ _) (by decide) (Nat.le_refl _)).mono ?_
  rintro e w3 ⟨v3, rfl, ho, hu, hn⟩
  have e1 : ([] : List UInt8) ++ fld 258 2 = [1, 2] := by decide
  rw [e1] at ho
  have hs3 := run_str (P := Try.prog) _ 22 9 5 Try.underlying22 Try.underlying5 Try.underlying9 _ _ ho.bytes
  have hu3 : Upd Non w2 w3 := hu.mono fun k hk h => by cases h
  replace hr2 := hr2.non hu3
  replace hu2 := hu2.trans hu3 fun _ _ h => h
  clear ho hu hn hu3 e1
  replace hr2 := Lib.hid hr2
  replace hu2 := Lib.hid hu2
  go_wp2_with fail
  refine (Put64 w3.heap.size _ [] (-2) w3 (by decide) (by decide) (World.ownsRow_nil _ _ _ _) (by decide) (Nat.le_refl _)).mono ?_
  rintro e w4 ⟨v4, rfl, ho, hu, hn⟩
  have e1 : ([] : List UInt8) ++ fld (-2) 8 = [255, 255, 255, 255, 255, 255, 255, 254] := by decide
  rw [e1] at ho
  have hs4 := run_str (P := Try.prog) _ 22 9 5 Try.underlying22 Try.underlying5 Try.underlying9 _ _ ho.bytes
  have hu3 : Upd Non w3 w4 := hu.mono fun k hk h => by cases h
  replace hr2 := hr2.out.non hu3
  replace hu2 := hu2.out.trans hu3 fun _ _ h => h
  clear ho hu hn hu3 e1
  replace hr2 := Lib.hid hr2
  replace hu2 := Lib.hid hu2
  go_wp2_with fail
  refine (PutText w4.heap.size _ [] [97, 98] w4 (World.ownsRow_nil _ _ _ _) (by decide) (Nat.le_refl _)).mono ?_
  rintro e w5 ⟨v5, rfl, ho, hu, hn⟩
  have e1 : ([] : List UInt8) ++ (fld (List.length ([97, 98] : List UInt8)) 4 ++ [97, 98]) = [0, 0, 0, 2, 97, 98] := by decide
  rw [e1] at ho
  have hs5 := run_str (P := Try.prog) _ 22 9 5 Try.underlying22 Try.underlying5 Try.underlying9 _ _ ho.bytes
  have hu3 : Upd Non w4 w5 := hu.mono fun k hk h => by cases h
  replace hr2 := hr2.out.non hu3
  replace hu2 := hu2.out.trans hu3 fun _ _ h => h
  clear ho hu hn hu3 e1
  replace hu2 := Lib.hid hu2
  have hE := Lib.hid (fErr r _ _ _ _ hr2)
  have hA := Lib.hid (fAt r _ _ _ _ hr2)
  go_wp2_with (first | (go_at_call 20; refine hE.out.mono ?_; rintro e w' ⟨rfl, rfl⟩) | (go_at_call 19; refine hA.out.mono ?_; rintro e w' ⟨rfl, rfl⟩))
  go_ret
  exact ⟨rfl, hu2.out⟩
end Go.Proofs.Ytgemlapmjbgdkaa
