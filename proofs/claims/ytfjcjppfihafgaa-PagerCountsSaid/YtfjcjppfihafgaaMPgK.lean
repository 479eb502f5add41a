/- The walks over ambryref09.Same, ambrylaw09.few. -/
import Derived.Test.YtfjcjppfihafgaaMPgE
import Derived.Deep.QuietTactic
namespace Go.Proofs.Ytfjcjppfihafgaa
set_option maxRecDepth 100000
open Go.RowKit Go.Amb
set_option linter.unusedVariables false
set_option linter.unusedSimpArgs false
theorem nats_at {w : World} {v : Value} {l : List Nat} (h : Nats w v l) : ∃ a c, v = .slice a l.length c ∧ l.length ≤ maxLen ∧ ∀ k (hk : k < l.length), ∃ g off, a = some ⟨g, off, none⟩ ∧ w.cell? ⟨g, off + k, none⟩ = some (.int .i64 (l[k] : Int)) := by
  obtain ⟨hl, a, c, rfl, hc, hm, hx⟩ := h
  refine ⟨a, c, rfl, by omega, fun k hk => ?_⟩
  rcases hx with h0 | ⟨b, off, rfl, hx⟩
  · omega
  · exact ⟨b, off, rfl, hx k _ (by unfold nV; rw [List.getElem?_map, List.getElem?_eq_getElem hk]; rfl)⟩
theorem same_nat {la lb : List Nat} {i : Nat} (ha : i < la.length) (hb : i < lb.length) (hd : la.drop i = lb.drop i ↔ la = lb) : (la[i] = lb[i] → (la.drop (i + 1) = lb.drop (i + 1) ↔ la = lb)) ∧ (la[i] ≠ lb[i] → la ≠ lb) := by
  rw [List.drop_eq_getElem_cons ha, List.drop_eq_getElem_cons hb] at hd
  simp only [List.cons.injEq] at hd
  exact ⟨fun h => ⟨fun h2 => hd.1 ⟨h, h2⟩, fun h2 => (hd.2 h2).2⟩, fun h h2 => h (hd.2 h2).1⟩
set_option maxHeartbeats 2000000 in
theorem rSame (va vb : Value) (la lb : List Nat) (w : World) (ha : Nats w va la) (hb : Nats w vb lb) : Calls Try.prog 20 #[va, vb] w (Ret (.bool (decide (la = lb))) w) := by
  obtain ⟨aa, ca, rfl, hm, hca⟩ := nats_at ha
  obtain ⟨ab, cb, rfl, _, hcb⟩ := nats_at hb
  unfold maxLen at hm
  by_cases hl : la.length = lb.length
  · replace hca := Lib.hid hca
    replace hcb := Lib.hid hcb
    clear ha hb
    replace hm := Lib.hid hm
    have hla : Hid (la.length = la.length) := Lib.hid rfl
    obtain ⟨n, hn⟩ : ∃ n, la.length = n := ⟨_, rfl⟩
    have hn1 := Lib.hid hn
    have hn2 : Hid (lb.length = n) := Lib.hid (hl.symm.trans hn)
    rw [← hl, hn]
    rw [hn] at hm
    clear hl hn
    go_enter Try.func20, Try.ntmps20
    go_wp2_with fail
    go_loopw [5] (fun iv wr => ∃ i : Nat, iv = .int .i64 (i : Int) ∧ i ≤ n ∧ Hid (la.drop i = lb.drop i ↔ la = lb) ∧ Upd Non w wr) (fun iv _ => n - (intOf iv).toNat)
    case atStart => exact ⟨0, rfl, by omega, Lib.hid (by simp), Upd.refl _ _⟩
    case round =>
      obtain ⟨i, rfl, hi, hd, hu⟩ := hrel
      by_cases hin : i < n
      · have l1 : i < la.length := by rw [hn1.out]; exact hin
        have l2 : i < lb.length := by rw [hn2.out]; exact hin
        obtain ⟨g1, o1, rfl, x1⟩ := hca.out i l1
        obtain ⟨g2, o2, rfl, y1⟩ := hcb.out i l2
        obtain ⟨s1, s2⟩ := same_nat l1 l2 hd.out
        replace x1 := hu.cell x1 fun h => h
        replace y1 := hu.cell y1 fun h => h
        have hin' : (i : Int) < (n : Int) := by omega
        have hi0 : (0 : Int) ≤ (i : Int) := by omega
        have hmm : n ≤ 9223372036854775807 := by have := hm.out; omega
        generalize la[i] = p at *
        generalize lb[i] = q at *
        clear l1 l2 hd
        by_cases hpq : p = q
        · have t1 := Lib.hid (s1 hpq)
          clear s1 s2
          subst hpq
          go_wp2_with fail
          go_quiet (fail)
          go_wp2_with fail
          go_roundw
          case rel => exact ⟨i + 1, by go_num, by omega, t1, hu.then_drewN _⟩
          case measure => simp [intOf]; omega
        · have t2 := Lib.hid (s2 hpq)
          have hne : ((p : Int) != (q : Int)) = true := by simp; omega
          clear s1 s2 hpq
          go_wp2_with fail
          go_quiet (fail)
          go_wp2_with fail
          go_ret
          exact ⟨by rw [show decide (la = lb) = false by simpa using t2.out]; rfl, hu.then_drewN _⟩
      · obtain rfl : i = n := by omega
        have hin' : ¬ (i : Int) < (i : Int) := by omega
        have he : Hid (decide (la = lb) = true) := Lib.hid (by
          have hd := hd.out
          rw [List.drop_eq_nil_of_le (by rw [hn1.out]; omega), List.drop_eq_nil_of_le (by rw [hn2.out]; omega)] at hd
          simpa using hd)
        clear hd
        go_wp2_with fail
        go_ret
        exact ⟨by rw [he.out]; rfl, hu⟩
  · have hne : ¬ la = lb := fun h => hl (by rw [h])
    have hne' : ((la.length : Int) != (lb.length : Int)) = true := by simp; omega
    clear hca hcb ha hb hm
    rw [show decide (la = lb) = false by simpa using hne]
    clear hne hl
    generalize la.length = n1 at *
    generalize lb.length = n2 at *
    go_enter Try.func20, Try.ntmps20
    go_wp2_with fail
    go_ret
    exact ⟨rfl, Upd.refl _ _⟩
end Go.Proofs.Ytfjcjppfihafgaa
