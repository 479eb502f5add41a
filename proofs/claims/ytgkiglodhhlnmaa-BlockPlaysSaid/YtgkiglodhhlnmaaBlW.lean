/- The reference's Has, Read. -/
import Derived.Test.YtgkiglodhhlnmaaBlV
namespace Go.Amb
open Go.RowKit
set_option linter.unusedVariables false
theorem lastAt_at {P : List (List UInt8 × Nat)} {i k : Nat} (hk : k < P.length) (h1 : P[k].2 = i) (h2 : ∀ j (hj : j < P.length), k < j → P[j].2 ≠ i) : lastAt P i = some P[k].1 := by
  have e : P = P.take k ++ P[k] :: P.drop (k + 1) := by rw [← List.drop_eq_getElem_cons hk, List.take_append_drop]
  have er : P.reverse = (P.drop (k + 1)).reverse ++ (P[k] :: (P.take k).reverse) := by conv => lhs; rw [e]
                                                                                       simp
  unfold lastAt
  rw [er, List.find?_append, List.find?_eq_none.2]
  · simp [h1]
  · intro p hp
    rw [List.mem_reverse] at hp
    obtain ⟨j, hj, rfl⟩ := List.mem_iff_getElem.1 hp
    rw [List.length_drop] at hj
    rw [List.getElem_drop, decide_eq_true_eq]
    exact h2 _ (by omega) (by omega)
theorem lastAt_no {P : List (List UInt8 × Nat)} {i : Nat} (h2 : ∀ j (hj : j < P.length), P[j].2 ≠ i) : lastAt P i = none := by
  unfold lastAt
  rw [List.find?_eq_none.2]
  · rfl
  · intro p hp
    rw [List.mem_reverse] at hp
    obtain ⟨j, hj, rfl⟩ := List.mem_iff_getElem.1 hp
    rw [decide_eq_true_eq]
    exact h2 j hj
/-- What the reference's disk has at a sector. -/
def Dk.hasR (r : Dk) (i : Nat) : List UInt8 := (lastAt r.P i).getD (full (r.K.getD i []))
theorem wc_len (P : List (List UInt8 × Nat)) : ∀ s ∈ P.map wc, s.length = 2 := by
  intro s hs
  obtain ⟨x, hx, rfl⟩ := List.mem_map.1 hs
  rfl
end Go.Amb
namespace Go.Proofs.Ytgkiglodhhlnmaa
open Go.RowKit Go.Amb Go.Shelf
set_option linter.unusedVariables false
set_option linter.unusedSimpArgs false
set_option maxRecDepth 100000
theorem Same.has {d r : Dk} (h : Same d r) {i : Nat} (hi : i < r.K.length) : d.has i = r.hasR i := by
  unfold Dk.has Dk.hasR
  rw [h.p, h.k]
  congr 1
  simp [List.getD_eq_getElem?_getD, List.getElem?_map, List.getElem?_eq_getElem hi]
/-- Pending write k of the reference. -/
theorem RAt.write {w : World} {r : Dk} {kv pv : Value} (h : RAt w r kv pv) {k : Nat} (hk : k < r.P.length) : ∃ g off c, pv = .slice (some ⟨g, off, none⟩) r.P.length c ∧ w.cell? ⟨g, off + k * 2, none⟩ = some (.int .i64 (r.P[k].2 : Int)) ∧ w.cell? ⟨g, off + k * 2 + 1, none⟩ = some (.string ⟨r.P[k].1.toArray⟩) := by
  obtain ⟨_, a, c, rfl, -, -, h3⟩ := h.p
  obtain ⟨g, off, rfl, hc⟩ := h3.resolve_left (by omega)
  have hg := fun j (hj : j < 2) => fl_get (wc_len r.P) k j (by rw [List.length_map]; exact hk) hj
  refine ⟨g, off, c, rfl, hc (k * 2) _ ?_, ?_⟩
  · have := hg 0 (by omega); rw [Nat.add_zero, List.getElem_map] at this; exact this
  · rw [Nat.add_assoc]
    refine hc (k * 2 + 1) _ ?_
    have := hg 1 (by omega); rw [List.getElem_map] at this; exact this
theorem RAt.kept {w : World} {r : Dk} {kv pv : Value} (h : RAt w r kv pv) {i : Nat} (hi : i < r.K.length) : ∃ g off c, kv = .slice (some ⟨g, off, none⟩) r.K.length c ∧ w.cell? ⟨g, off + i, none⟩ = some (.string ⟨r.K[i].toArray⟩) := by
  obtain ⟨_, a, c, rfl, -, -, h3⟩ := h.k
  obtain ⟨g, off, rfl, hc⟩ := h3.resolve_left (by omega)
  exact ⟨g, off, c, rfl, hc i _ (by rw [List.getElem?_map, List.getElem?_eq_getElem hi]; rfl)⟩
set_option maxHeartbeats 4000000 in
theorem refHas (r : Dk) (kv pv : Value) (w : World) (h : RAt w r kv pv) (hl : ∀ s ∈ r.K, s.length ≤ 128) (hP : r.P.length ≤ 1000000) (i : Nat) (hi : i < r.K.length) :
    Calls Try.prog 37 #[rfv r kv pv, .int .i64 (i : Int)] w (Ret (.string ⟨(r.hasR i).toArray⟩) w) := by
  obtain ⟨_, pa, pcp, rfl, -⟩ := id h.p
  obtain ⟨gk, ok, ck, rfl, hck⟩ := h.kept hi
  have hF := Lib.hid (fun w => refFull r.K[i] (hl _ (List.getElem_mem hi)) w)
  have hlast := Lib.hid (fun (k : Nat) (hk : k < r.P.length) (h1 : r.P[k].2 = i) (h2 : ∀ j (hj : j < r.P.length), k < j → r.P[j].2 ≠ i) => show r.hasR i = r.P[k].1 by unfold Dk.hasR; rw [lastAt_at hk h1 h2]; rfl)
  have hnone := Lib.hid (fun (h2 : ∀ j (hj : j < r.P.length), r.P[j].2 ≠ i) => show r.hasR i = full r.K[i] by unfold Dk.hasR; rw [lastAt_no h2]; simp [List.getD_eq_getElem?_getD, List.getElem?_eq_getElem hi])
  have hh := Lib.hid h
  have hiK : (i : Int) < (r.K.length : Int) := by omega
  obtain ⟨ans, hans⟩ : ∃ ans, r.hasR i = ans := ⟨_, rfl⟩
  rw [hans] at hlast hnone ⊢
  unfold rfv
  obtain ⟨m, hm⟩ : ∃ m, r.K.length = m := ⟨_, rfl⟩
  obtain ⟨n, hn⟩ : ∃ n, r.P.length = n := ⟨_, rfl⟩
  rw [hm] at hiK ⊢
  rw [hn] at hP ⊢
  obtain ⟨sK, hsK⟩ : ∃ sK, r.K[i] = sK := ⟨_, rfl⟩
  rw [hsK] at hck hF hnone
  have hw0 : IntKind.i64.wrap ((n : Int) - 1) = (n : Int) - 1 := IntWalk.i64_in _ ⟨by omega, by omega⟩
  have hi0 : (0 : Int) ≤ (i : Int) := by omega
  have hA : Upd Non w (w.alloc (.cells #[.int .i64 (m : Int), .slice (some ⟨gk, ok, none⟩) m ck, .slice pa n pcp, .int .i64 r.f, .bool r.dd] 48)) := Upd.alloc _ _ _
  have xk := hA.cell hck fun h => h
  replace hm := Lib.hid hm
  replace hn := Lib.hid hn
  replace hsK := Lib.hid hsK
  replace hans := Lib.hid hans
  clear h hck
  go_enter Try.func37, Try.ntmps37
  go_wp2_with fail
  go_loopw [5] (fun iv wr => ∃ k : Nat, iv = .int .i64 ((k : Int) - 1) ∧ k ≤ n ∧ Hid (∀ j (hj : j < r.P.length), k ≤ j → r.P[j].2 ≠ i) ∧ wr = w.alloc (.cells #[.int .i64 (m : Int), .slice (some ⟨gk, ok, none⟩) m ck, .slice pa n pcp, .int .i64 r.f, .bool r.dd] 48)) (fun iv _ => (intOf iv + 1).toNat)
  case atStart => exact ⟨n, rfl, Nat.le_refl _, Lib.hid (fun j hj h => by have := hn.out; omega), rfl⟩
  case round =>
    obtain ⟨k, rfl, hk, hne, rfl⟩ := hrel
    cases k with
    | zero =>
      rw [show ((0 : Nat) : Int) - 1 = -1 by omega]
      go_wp2_with fail
      refine (hF.out _).mono ?_
      rintro en w2 ⟨rfl, hu2⟩
      have hU := hA.trans hu2 fun _ _ h => h
      simp only []
      go_wp2_with fail
      go_ret
      exact ⟨by rw [hnone.out fun j hj => hne.out j hj (Nat.zero_le _)]; rfl, hU⟩
    | succ k =>
      have hkP : k < r.P.length := by rw [hn.out]; omega
      obtain ⟨gp, op, cp, hpv, p0, p1⟩ := hh.out.write hkP
      injection hpv with e1 e2 e3
      clear e2 e3
      subst e1
      have xp0 := hA.cell p0 fun h => h
      have xp1 := hA.cell p1 fun h => h
      obtain ⟨pi, hpi⟩ : ∃ pi, r.P[k].2 = pi := ⟨_, rfl⟩
      obtain ⟨ps, hps⟩ : ∃ ps, r.P[k].1 = ps := ⟨_, rfl⟩
      rw [hpi] at xp0
      rw [hps] at xp1
      have hk1 : ((k + 1 : Nat) : Int) - 1 = k := by omega
      rw [hk1]
      have hk0 : (0 : Int) ≤ (k : Int) := by omega
      have hkn : (k : Int) < (n : Int) := by omega
      have hwk : IntKind.i64.wrap ((k : Int) - 1) = (k : Int) - 1 := IntWalk.i64_in _ ⟨by omega, by omega⟩
      clear p0 p1
      by_cases hx : pi = i
      · subst hx
        have hls := hlast.out k hkP hpi fun j hj h => hne.out j hj h
        rw [hps] at hls
        replace hls := Lib.hid hls
        replace hpi := Lib.hid hpi
        replace hps := Lib.hid hps
        go_wp2_with fail
        go_ret
        exact ⟨by rw [hls.out]; rfl, hA⟩
      · have hx1 : ((pi : Int) = (i : Int)) = False := eq_false (by omega)
        have hx2 : (pi = i) = False := eq_false hx
        have hx3 : ((pi : Int) == (i : Int)) = false := by simp; omega
        replace hx := Lib.hid hx
        replace hpi := Lib.hid hpi
        replace hps := Lib.hid hps
        go_wp2_with fail
        go_roundw
        case rel =>
          refine ⟨k, by go_num, by omega, Lib.hid (fun j hj h => ?_), trivial⟩
          rcases Nat.eq_or_lt_of_le h with h | h
          · subst h; rw [hpi.out]; exact hx.out
          · exact hne.out j hj h
        case measure => simp [intOf]
end Go.Proofs.Ytgkiglodhhlnmaa
