/- Disk.Write, all ways. -/
import Derived.Test.YtfjcjppfihafgaaMBlH
namespace Go.Proofs.Ytfjcjppfihafgaa
open Go.RowKit Go.Amb Go.Shelf
set_option linter.unusedVariables false
set_option linter.unusedSimpArgs false
set_option maxRecDepth 100000
theorem burn_cases (d : Dk) : d.burn.2 = 0 ∨ (d.burn.2 = 20) := by
  unfold Dk.burn
  split
  · exact .inr rfl
  · split <;> exact .inl rfl
theorem lWrite {w : World} {D : Nat} {F : Nat → Prop} {d : Dk} (h : DiskAt w D F d) (hn : d.P.length ≤ 1000000) (i : Int) (s : List UInt8) (v : Value) (hB : Bytes w v s) (hv : ∀ k, At v k → ¬ F k) :
    Calls Try.prog 44 #[.pointer (some ⟨D, 0, none⟩), .int .i64 i, v] w (Stepped w D F (d.write i s).1 (.int .i64 (d.write i s).2)) := by
  unfold Dk.write
  have cW := lWithin h i
  by_cases hw : d.within i = 0
  · rw [if_neg (by simpa using hw)]
    by_cases hs : 128 < s.length
    · rw [if_pos hs]
      rw [hw] at cW
      obtain ⟨a, c, rfl⟩ := bytes_form hB
      have hs' : (128 : Int) < (s.length : Int) := by omega
      have hh := Lib.hid h
      clear h hB hv
      go_enter Try.func44, Try.ntmps44
      go_wp2_with fail
      refine cW.mono ?_
      rintro en w1 ⟨rfl, hu1⟩
      simp only []
      go_wp2_with fail
      go_ret
      exact ⟨rfl, F, hh.out.non hu1, hu1.non, fun k hk => .inl hk⟩
    · rw [if_neg hs]
      rcases burn_cases d with hb | hb
      · rw [if_neg (by simpa using hb)]
        have hw0 := Dk.within_0 hw
        obtain ⟨k, rfl⟩ := Int.eq_ofNat_of_zero_le hw0.2.1
        rw [Int.toNat_natCast]
        exact lWriteOk h hn k s v hw (by omega) hb hB hv
      · rw [if_pos (by rw [hb]; simp)]
        rw [hw] at cW
        have cB := Lib.hid (fun w' (hu : Upd Non w w') => lBurn (h.non hu))
        rw [hb] at cB ⊢
        obtain ⟨a, c, rfl⟩ := bytes_form hB
        have hs1 : ((128 : Int) < (s.length : Int)) = False := eq_false (by omega)
        have hs2 : (128 < s.length) = False := eq_false (by omega)
        clear h hB hv hs
        go_enter Try.func44, Try.ntmps44
        go_wp2_with fail
        refine cW.mono ?_
        rintro en w1 ⟨rfl, hu1⟩
        simp only []
        go_wp2_with fail
        refine (cB.out _ hu1).mono ?_
        rintro en w2 ⟨rfl, hD2, hu2⟩
        replace hD2 := Lib.hid hD2
        simp only []
        go_wp2_with fail
        go_ret
        exact ⟨rfl, F, hD2.out, (Upd.non hu1).trans hu2 fun _ _ h => h, fun k hk => .inl hk⟩
  · rw [if_pos hw]
    obtain ⟨e, he⟩ : ∃ e, d.within i = e := ⟨_, rfl⟩
    rw [he] at hw cW ⊢
    have hw1 : (e == 0) = false := by simpa using hw
    have hw2 : (e != 0) = true := by simpa using hw
    have hw3 : (e = 0) = False := eq_false hw
    obtain ⟨a, c, rfl⟩ := bytes_form hB
    have hh := Lib.hid h
    clear h hB hv hw
    go_enter Try.func44, Try.ntmps44
    go_wp2_with fail
    refine cW.mono ?_
    rintro en w1 ⟨rfl, hu1⟩
    simp only []
    go_wp2_with fail
    go_ret
    exact ⟨rfl, F, hh.out.non hu1, hu1.non, fun k hk => .inl hk⟩
end Go.Proofs.Ytfjcjppfihafgaa
