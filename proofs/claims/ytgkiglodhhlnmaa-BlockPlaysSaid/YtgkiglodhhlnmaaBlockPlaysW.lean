/- The walk over BlockPlays, whatever comes in. -/
import Derived.Test.YtgkiglodhhlnmaaBmL
namespace Go.Proofs.Ytgkiglodhhlnmaa
open Go.RowKit Go.Amb Go.Shelf
set_option linter.unusedVariables false
set_option linter.unusedSimpArgs false
set_option maxRecDepth 100000
set_option maxHeartbeats 2000000 in
/-- Too many acts. -/
theorem lPlaysMany (n : Nat) (h1 : 1 ≤ n) (h2 : n ≤ 16384) (v : Value) (l : List Act4) (i : Int) (w : World) (hA : Acts w v l) (hf : few4 l = false) : Calls Try.prog 6 #[.int .i64 (n : Int), v, .int .i64 i] w (Ret (.bool true) w) := by
  have cN := Lib.hid (lvNew n h1 h2 w)
  have cR : Hid (∀ w', Calls Try.prog 18 #[.int .i64 (n : Int)] w' (fun en w9 => ∃ m ka kn kc pa pn pc f dd, en = .returned (.tuple #[.agg #[.int .i64 m, .slice ka kn kc, .slice pa pn pc, .int .i64 f, .bool dd], .int .i64 0]) ∧ Upd Non w' w9)) :=
    Lib.hid (fun w' => (refNew n h1 h2 w').mono fun en w9 ⟨kv, he, hR, hu, hn⟩ => by
      obtain ⟨_, ka, kc, rfl, -⟩ := id hR.k
      exact ⟨_, _, _, _, _, _, _, _, _, he, hu⟩)
  have cF : Hid (∀ w', Upd Non w w' → Calls Try.prog 19 #[v] w' (Ret (.bool false) w')) := Lib.hid (fun w' hu => by have := lFew v l w' (hA.non hu); rw [hf] at this; exact this)
  have hs5 := Lib.hid size_disk5
  clear hf hA h1 h2
  go_enter Try.func6, Try.ntmps6
  go_wp2_with fail
  refine cN.out.mono ?_
  rintro en w1 ⟨D0, F1, rfl, L1⟩
  replace L1 := Lib.hid L1.upd
  clear cN
  simp only []
  go_wp2_with fail
  refine (cR.out w1).mono ?_
  rintro en w2 ⟨m0, ka0, kn0, kc0, pa0, pn0, pc0, f0, dd0, rfl, hu2⟩
  have hN2 := Lib.hid (L1.out.trans hu2 fun _ _ h => h)
  clear L1 cR hu2
  simp only []
  go_wp2_with (refine wpList_store_blk rfl 48 _ _ rfl w2.heap.size #[.int .i64 m0, .slice ka0 kn0 kc0, .slice pa0 pn0 pc0, .int .i64 f0, .bool dd0] _ _ rfl rfl (heap_alloc_new w2 (.cells #[.int .i64 0, .slice none 0 0, .slice none 0 0, .int .i64 0, .bool false] 48)) rfl hs5.out (by simp [Value.oneCell']) ?_)
  intro w3 hX3 hu3
  have hN3 : Upd Non w w3 := (hN2.out.trans (Upd.alloc Non w2 (.cells #[.int .i64 0, .slice none 0 0, .slice none 0 0, .int .i64 0, .bool false] 48)) fun _ _ h => h).trans hu3 (fun k hk hs => by have := hN2.out.size; omega)
  clear hX3 hu3 hN2
  go_wp2_with fail
  refine (cF.out w3 hN3).mono ?_
  rintro en w4 ⟨rfl, hu4⟩
  have hN4 := hN3.trans hu4 fun _ _ h => h
  clear hu4 hN3
  simp only []
  go_wp2_with fail
  refine (cF.out w4 hN4).mono ?_
  rintro en w5 ⟨rfl, hu5⟩
  have hN5 := hN4.trans hu5 fun _ _ h => h
  clear hu5 hN4 cF
  simp only []
  go_wp2_with fail
  refine (lives04 _).mono ?_
  rintro en w8 ⟨rfl, hu8⟩
  have hN8 := hN5.trans hu8 fun _ _ h => h
  simp only []
  go_wp2_with fail
  go_ret
  exact ⟨rfl, hN8⟩
set_option maxHeartbeats 2000000 in
/-- No such disk. -/
theorem lPlaysNo (n : Int) (h : ¬ (1 ≤ n ∧ n ≤ 16384)) (v : Value) (l : List Act4) (i : Int) (w : World) (hA : Acts w v l) : Calls Try.prog 6 #[.int .i64 n, v, .int .i64 i] w (Ret (.bool true) w) := by
  have cN := Lib.hid (lNew_no n (by omega) w)
  have cR := Lib.hid (fun w' => refNewNo n h w')
  obtain ⟨_, va, vc, rfl, -⟩ := id hA.has
  obtain ⟨L, hL⟩ : ∃ L, l.length = L := ⟨_, rfl⟩
  have cF : ∀ b, few4 l = b → Hid (∀ w', Upd Non w w' → Calls Try.prog 19 #[.slice va L vc] w' (Ret (.bool b) w')) := fun b hb => Lib.hid (fun w' hu => by rw [← hL, ← hb]; exact lFew _ l w' (hA.non hu))
  rw [hL]
  have hs5 := Lib.hid size_disk5
  by_cases hf : few4 l = true
  · replace cF := cF true hf
    clear hf hA hL h
    go_enter Try.func6, Try.ntmps6
    go_wp2_with fail
    refine cN.out.mono ?_
    rintro en w1 ⟨rfl, hu1⟩
    replace hu1 := Lib.hid hu1
    clear cN
    simp only []
    go_wp2_with fail
    refine (cR.out w1).mono ?_
    rintro en w2 ⟨rfl, hu2⟩
    have hN2 := Lib.hid (hu1.out.trans hu2 fun _ _ h => h)
    clear cR hu1 hu2
    simp only []
    go_wp2_with (refine wpList_store_blk rfl 48 _ _ rfl w2.heap.size #[.int .i64 0, .slice none 0 0, .slice none 0 0, .int .i64 0, .bool false] _ _ rfl rfl (heap_alloc_new w2 (.cells #[.int .i64 0, .slice none 0 0, .slice none 0 0, .int .i64 0, .bool false] 48)) rfl hs5.out (by simp [Value.oneCell']) ?_)
    intro w3 hX3 hu3
    have hN3 : Upd Non w w3 := (hN2.out.trans (Upd.alloc Non w2 (.cells #[.int .i64 0, .slice none 0 0, .slice none 0 0, .int .i64 0, .bool false] 48)) fun _ _ h => h).trans hu3 (fun k hk hs => by have := hN2.out.size; omega)
    clear hX3 hu3 hN2
    go_wp2_with fail
    refine (cF.out w3 hN3).mono ?_
    rintro en w4 ⟨rfl, hu4⟩
    have hN4 := hN3.trans hu4 fun _ _ h => h
    clear hu4 hN3
    simp only []
    go_wp2_with fail
    go_loopw [7, 11] (fun dv iv wr => dv = .pointer none ∧ iv = .int .i64 0 ∧ Upd Non w wr) (fun _ _ _ => 0)
    case atStart => exact ⟨rfl, rfl, hN4⟩
    case round =>
      clear hN4
      obtain ⟨rfl, rfl, hN⟩ := hrel
      by_cases h0 : 0 < L
      · have h1 : (0 : Int) < (L : Int) := by omega
        go_wp2_with fail
        refine (lives04 _).mono ?_
        rintro en w8 ⟨rfl, hu8⟩
        have hN8 := hN.trans hu8 fun _ _ h => h
        simp only []
        go_wp2_with fail
        go_ret
        exact ⟨rfl, hN8⟩
      · obtain rfl : L = 0 := by omega
        clear h0
        go_wp2_with fail
        refine (lives04 _).mono ?_
        rintro en w8 ⟨rfl, hu8⟩
        have hN8 := hN.trans hu8 fun _ _ h => h
        simp only []
        go_wp2_with fail
        go_ret
        exact ⟨rfl, hN8⟩
  · replace cF := cF false (by simpa using hf)
    clear hf hA hL h
    go_enter Try.func6, Try.ntmps6
    go_wp2_with fail
    refine cN.out.mono ?_
    rintro en w1 ⟨rfl, hu1⟩
    replace hu1 := Lib.hid hu1
    clear cN
    simp only []
    go_wp2_with fail
    refine (cR.out w1).mono ?_
    rintro en w2 ⟨rfl, hu2⟩
    have hN2 := Lib.hid (hu1.out.trans hu2 fun _ _ h => h)
    clear cR hu1 hu2
    simp only []
    go_wp2_with (refine wpList_store_blk rfl 48 _ _ rfl w2.heap.size #[.int .i64 0, .slice none 0 0, .slice none 0 0, .int .i64 0, .bool false] _ _ rfl rfl (heap_alloc_new w2 (.cells #[.int .i64 0, .slice none 0 0, .slice none 0 0, .int .i64 0, .bool false] 48)) rfl hs5.out (by simp [Value.oneCell']) ?_)
    intro w3 hX3 hu3
    have hN3 : Upd Non w w3 := (hN2.out.trans (Upd.alloc Non w2 (.cells #[.int .i64 0, .slice none 0 0, .slice none 0 0, .int .i64 0, .bool false] 48)) fun _ _ h => h).trans hu3 (fun k hk hs => by have := hN2.out.size; omega)
    clear hX3 hu3 hN2
    go_wp2_with fail
    refine (cF.out w3 hN3).mono ?_
    rintro en w4 ⟨rfl, hu4⟩
    have hN4 := hN3.trans hu4 fun _ _ h => h
    clear hu4 hN3
    simp only []
    go_wp2_with fail
    refine (cF.out w4 hN4).mono ?_
    rintro en w5 ⟨rfl, hu5⟩
    have hN5 := hN4.trans hu5 fun _ _ h => h
    clear hu5 hN4 cF
    simp only []
    go_wp2_with fail
    refine (lives04 _).mono ?_
    rintro en w8 ⟨rfl, hu8⟩
    have hN8 := hN5.trans hu8 fun _ _ h => h
    simp only []
    go_wp2_with fail
    go_ret
    exact ⟨rfl, hN8⟩
theorem lBlockPlays (n : Int) (v : Value) (l : List Act4) (i : Int) (w : World) (hA : Acts w v l) : Calls Try.prog 6 #[.int .i64 n, v, .int .i64 i] w (Ret (.bool true) w) := by
  by_cases h : 1 ≤ n ∧ n ≤ 16384
  · obtain ⟨m, rfl⟩ := Int.eq_ofNat_of_zero_le (show 0 ≤ n by omega)
    by_cases hf : few4 l = true
    · exact lPlaysIn m (by omega) (by omega) v l i w hA hf
    · exact lPlaysMany m (by omega) (by omega) v l i w hA (by simpa using hf)
  · exact lPlaysNo n h v l i w hA
end Go.Proofs.Ytgkiglodhhlnmaa
