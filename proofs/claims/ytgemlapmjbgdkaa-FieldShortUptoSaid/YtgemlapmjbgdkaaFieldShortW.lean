/- The walk of FieldShort. -/
import Derived.Test.YtgemlapmjbgdkaaFPlainB
import Derived.Test.YtgemlapmjbgdkaaFL
import Derived.Deep.RegionWith
namespace Go.Proofs.Ytgemlapmjbgdkaa
open Go.RowKit Go.Amb
set_option linter.unusedVariables false
attribute [local go_sem ↓] Go.wp_at_zero Go.wp_at_succ

set_option maxHeartbeats 400000 in
theorem short_out (s : List UInt8) (n c cut : Int) (w : World) (h : c < 0 ∨ 3 < c) : Calls Try.prog 8 #[.string ⟨s.toArray⟩, .int .i64 n, .int .i64 c, .int .i64 cut] w (Ret (.bool true) w) := by
  by_cases h0 : c < 0
  all_goals
    go_enter Try.func8, Try.ntmps8
    go_wp2_with fail
    refine (lives01 _).mono ?_
    rintro e w1 ⟨rfl, hu⟩
    go_wp2_with fail
    go_ret
    exact ⟨rfl, hu⟩

/-- The first n of a slice's bytes. -/
theorem bytes_pre {w : World} {g cap : Nat} {s : List UInt8} (h : Bytes w (.slice (some ⟨g, 0, none⟩) s.length cap) s) (n : Nat) (h1 : n ≤ s.length) : Bytes w (.slice (some ⟨g, 0, none⟩) n cap) (s.take n) := by
  obtain ⟨hl, a, c', hv, h1', h2', h3'⟩ := h
  injection hv with e1 _ e2
  subst e1; subst e2
  have hn : (s.take n).length = n := by rw [List.length_take]; omega
  refine ⟨by rw [bc_length, Nat.mul_one], _, _, by rw [hn], by omega, h2', ?_⟩
  rcases h3' with h3' | ⟨g', off', he, hc'⟩
  · exact .inl (by omega)
  · refine .inr ⟨g', off', he, fun j u hj => hc' j u ?_⟩
    obtain ⟨hl', rfl⟩ := (bc_get _ _ _).1 hj
    exact (bc_get _ _ _).2 ⟨by omega, by rw [List.getElem_take]⟩

set_option maxRecDepth 100000 in
set_option maxHeartbeats 2000000 in
theorem short_in (s : List UInt8) (n cut : Int) (k : Nat) (w : World) (hk : k < 4) (hs : s.length ≤ 1048576) (hlo : -9223372036854775808 ≤ n) (hhi : n ≤ 9223372036854775807) (clo : -9223372036854775808 ≤ cut) (chi : cut ≤ 9223372036854775807) :
    Calls Try.prog 8 #[.string ⟨s.toArray⟩, .int .i64 n, .int .i64 k, .int .i64 cut] w (Ret (.bool true) w) := by
  go_enter Try.func8, Try.ntmps8
  go_wp2_with fail
  refine (PutText w.heap.size _ [] s w (World.ownsRow_nil _ _ _ _) (by simp; omega) (Nat.le_refl _)).mono ?_
  rintro e w1 ⟨v1, rfl, ho1, hu1, hn1⟩
  replace hu1 := hu1.toNon (fun k h => by cases h)
  replace ho1 : Own w1 w.heap.size 5 v1 (txt s) := ho1
  clear hn1
  go_wp2_with fail
  refine (lPut w1.heap.size _ [] k n w1 hk hlo hhi (World.ownsRow_nil _ _ _ _) (by simp) (Nat.le_refl _)).mono ?_
  rintro e w2 ⟨v2, rfl, ho2, hu2, hn2⟩
  replace hu2 := hu2.toNon (fun k h => by cases h)
  replace ho2 : Own w2 w1.heap.size 5 v2 (fld n (wid k)) := ho2
  clear hn2
  have hA : (txt s).length = 4 + s.length := txt_length s
  have hB : (fld n (wid k)).length = wid k := fld_length _ _
  have hw : 1 ≤ wid k ∧ wid k ≤ 8 := by obtain rfl | rfl | rfl | rfl : k = 0 ∨ k = 1 ∨ k = 2 ∨ k = 3 := by omega
                                        all_goals decide
  obtain ⟨g1, c1, rfl, hc1, hm1, hb1, hg1⟩ := own_form ho1 (by omega)
  obtain ⟨g2, c2, rfl, hc2, hm2, hb2, hg2⟩ := own_form ho2 (by omega)
  rw [hA] at hc1
  rw [hB] at hc2
  replace ho1 := Lib.hid (ho1.bytes.upd hu2 fun _ _ h => h)
  replace ho2 := Lib.hid ho2.bytes
  replace hu1 := Lib.hid hu1
  replace hu2 := Lib.hid hu2
  rw [hA, hB]
  obtain ⟨hw1, hw2⟩ := hw
  generalize hwk : wid k = wk at *
  replace hwk := Lib.hid hwk
  replace hA := Lib.hid hA
  replace hB := Lib.hid hB
  unfold maxLen at hm1 hm2
  have hU : 0 ≤ IntKind.u64.wrap cut := by simp only [IntKind.wrap_u64]; omega
  obtain ⟨i, hi⟩ := Int.eq_ofNat_of_zero_le (Int.emod_nonneg (IntKind.u64.wrap cut) (show (4 : Int) + s.length ≠ 0 by omega))
  obtain ⟨j, hj⟩ := Int.eq_ofNat_of_zero_le (Int.emod_nonneg (IntKind.u64.wrap cut) (show (wk : Int) ≠ 0 by omega))
  have hi1 := Int.emod_lt_of_pos (IntKind.u64.wrap cut) (show 0 < (4 : Int) + s.length by omega)
  have hj1 := Int.emod_lt_of_pos (IntKind.u64.wrap cut) (show 0 < (wk : Int) by omega)
  rw [hi] at hi1
  rw [hj] at hj1
  have ha0 : ((4 : Int) + s.length == 0) = false := by rw [beq_eq_false_iff_ne]; omega
  have hb0 : ((wk : Int) == 0) = false := by rw [beq_eq_false_iff_ne]; omega
  have hk0 : (0 : Int) ≤ k := by omega
  have hk3 : (k : Int) ≤ 3 := by omega
  go_wp2_with fail
  have hBx : Bytes w2 (.slice (some ⟨g1, 0, none⟩) i c1) ((txt s).take i) := bytes_pre ho1.out i (by rw [hA.out]; omega)
  have hlx : ((txt s).take i).length = i := by rw [List.length_take, hA.out]; omega
  refine (fNewReader _ _ _ hBx (by rw [hlx]; omega)).mono ?_
  rintro e w3 ⟨r1, rfl, hr1, hu3, hlt1⟩
  have hBy : Bytes w3 (.slice (some ⟨g2, 0, none⟩) j c2) ((fld n wk).take j) := (bytes_pre (ho2.out.upd hu3 fun _ _ h => h) j (by rw [hB.out]; omega) : Bytes w3 (.slice (some ⟨g2, 0, none⟩) j c2) _)
  have hly : ((fld n wk).take j).length = j := by rw [List.length_take, hB.out]; omega
  have hU3 := Lib.hid ((hu1.out.trans hu2.out fun _ _ h => h).trans hu3 fun _ _ h => h)
  have hr1lt := hr1.lt
  have hw3 := hU3.out.size
  clear hu1 hu2 hu3 ho1 ho2 hBx hlx
  replace hr1 := Lib.hid hr1
  go_wp2_with fail
  refine (fNewReader _ _ _ hBy (by rw [hly]; omega)).mono ?_
  rintro e w4 ⟨r2, rfl, hr2, hu4, hlt2⟩
  replace hr1 := hr1.out.non hu4
  replace hU3 := hU3.out.trans hu4 fun _ _ h => h
  have hw4 := hU3.size
  clear hu4 hBy hly
  replace hU3 := Lib.hid hU3
  replace hr2 := Lib.hid hr2
  go_wp2_with fail
  refine (fText r1 _ 0 0 s.length w4 hr1).mono ?_
  rw [short_text s i (by omega) (by omega)]
  rintro e w5 ⟨rfl, hr1, hu5⟩
  replace hr2 := Lib.hid (hr2.out.upd hu5 fun k _ h => by omega)
  replace hU3 := Lib.hid (hU3.out.trans hu5 fun k hk h => by omega)
  replace hr1 := Lib.hid hr1
  have hw5 := hu5.size
  clear hu5
  go_wp2_with fail
  refine (lGet r2 _ 0 0 k w5 hk hr2.out).mono ?_
  rw [hwk.out, short_num n wk j (by omega)]
  rintro e w6 ⟨rfl, hr2, hu6⟩
  replace hr1 := Lib.hid (hr1.out.upd hu6 fun k _ h => by omega)
  replace hU3 := Lib.hid (hU3.out.trans hu6 fun k hk h => by omega)
  replace hr2 := Lib.hid hr2
  have hw6 := hu6.size
  clear hu6
  have hE1 := Lib.hid (fErr r1 _ _ _ _ hr1.out)
  have hE2 := Lib.hid (fErr r2 _ _ _ _ hr2.out)
  have hA1 := Lib.hid (fAt r1 _ _ _ _ hr1.out)
  have hA2 := Lib.hid (fAt r2 _ _ _ _ hr2.out)
  go_wp2_with (first | (go_at_call_of 20 r1; refine hE1.out.mono ?_; rintro e w' ⟨rfl, rfl⟩) | (go_at_call_of 20 r2; refine hE2.out.mono ?_; rintro e w' ⟨rfl, rfl⟩) | (go_at_call_of 19 r1; refine hA1.out.mono ?_; rintro e w' ⟨rfl, rfl⟩) | (go_at_call_of 19 r2; refine hA2.out.mono ?_; rintro e w' ⟨rfl, rfl⟩))
  clear hE1 hE2 hA1 hA2
  refine (fU8 r2 _ 0 3 w6 hr2.out).mono ?_
  rw [rdNum_err (by decide)]
  rintro e w7 ⟨rfl, hr2, hu7⟩
  replace hr1 := Lib.hid (hr1.out.upd hu7 fun k _ h => by omega)
  replace hU3 := Lib.hid (hU3.out.trans hu7 fun k hk h => by omega)
  clear hr2
  have hw7 := hu7.size
  clear hu7
  go_wp2_with fail
  refine (fText r1 _ 0 3 0 w7 hr1.out).mono ?_
  rw [rdText_err (by decide)]
  rintro e w8 ⟨rfl, hr1, hu8⟩
  replace hU3 := Lib.hid (hU3.out.trans hu8 fun k hk h => by omega)
  have hw8 := hu8.size
  clear hu8
  replace hr1 := Lib.hid hr1
  go_wp2_with fail
  refine (fEnd r1 _ 0 3 w8 hr1.out).mono ?_
  rintro e w9 ⟨rfl, nd, rfl⟩
  go_wp2_with fail
  refine (lives01 _).mono ?_
  rintro e w10 ⟨rfl, hu⟩
  go_wp2_with fail
  go_ret
  exact ⟨rfl, (hU3.out.then_drewN nd).trans hu fun _ _ h => h⟩

theorem short_all (s : List UInt8) (n c cut : Int) (w : World) (hs : s.length ≤ 1048576) (hn : -9223372036854775808 ≤ n ∧ n ≤ 9223372036854775807) (hc : -9223372036854775808 ≤ cut ∧ cut ≤ 9223372036854775807) :
    Calls Try.prog 8 #[.string ⟨s.toArray⟩, .int .i64 n, .int .i64 c, .int .i64 cut] w (Ret (.bool true) w) := by
  by_cases h : c < 0 ∨ 3 < c
  · exact short_out s n c cut w h
  · obtain ⟨k, rfl⟩ := Int.eq_ofNat_of_zero_le (show 0 ≤ c by omega)
    exact short_in s n cut k w (by omega) hs hn.1 hn.2 hc.1 hc.2
end Go.Proofs.Ytgemlapmjbgdkaa
