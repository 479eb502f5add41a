/- The walks over strings.HasPrefix, strings.Index at a text of one byte, listing.of; and the reference's begins, entry. -/
import Derived.Test.YtphdclafeijpnaaLsP
import Derived.Test.YtphdclafeijpnaaLibE
import Derived.Test.YtphdclafeijpnaaLibF
import Derived.Test.YtphdclafeijpnaaRows
namespace Go.Proofs.Ytphdclafeijpnaa
open Go.RowKit Go.Amb
set_option linter.unusedVariables false
set_option linter.unusedSimpArgs false
theorem begins_iff (s p : Str) : begins s p = (decide (p.length ≤ s.length) && (s.take p.length == p)) := by
  unfold begins
  by_cases h : p.length ≤ s.length <;> by_cases h' : s.take p.length = p <;> simp [h, h']
set_option maxHeartbeats 1000000 in
theorem lHasP (s p : Str) (w : World) : Calls Try.prog 30 #[txtV s, txtV p] w (Ret (.bool (begins s p)) w) := by
  unfold txtV
  by_cases h : p.length ≤ s.length
  · have h' : (p.length : Int) ≤ (s.length : Int) := by omega
    have hsub := run_subTo (P := Try.prog) 9 Try.underlying9 s p.length p.length rfl h
    have hb : begins s p = (s.take p.length == p) := by rw [begins_iff]; simp [h]
    rw [hb]
    go_enter Try.func30, Try.ntmps30
    go_wp2_with fail
    go_ret
    exact ⟨by simp, Upd.refl _ _⟩
  · have h' : ¬ (p.length : Int) ≤ (s.length : Int) := by omega
    have hb : begins s p = false := by rw [begins_iff]; simp [h]
    rw [hb]
    go_enter Try.func30, Try.ntmps30
    go_wp2_with fail
    go_ret
    exact ⟨rfl, Upd.refl _ _⟩
set_option maxHeartbeats 1000000 in
theorem lIxByte (s : Str) (c : UInt8) (w : World) : Calls Try.prog 33 #[txtV s, .int .u8 c.toNat] w (Ret (.int .i64 (Lib.indexByte s c)) w) := by
  unfold txtV
  have hx := Lib.run_indexByteString (P := Try.prog) ⟨s.toArray⟩ c.toNat w
  have hc : ((c.toNat : Int)).toNat.toUInt8 = c := by simp
  rw [hc] at hx
  go_enter Try.func33, Try.ntmps33
  go_wp2_with fail
  rw [run_callFunc_extern Try.func37 (by kernel_rfl) (by kernel_rfl) (by kernel_rfl) (e := Extern.BytealgIndexByte.indexByte) (by kernel_rfl), hx]
  simp only [Result.andThen]
  rw [Oper.upon_value]
  go_wp2_with fail
  go_ret
  exact ⟨rfl, Upd.refl _ _⟩
set_option maxHeartbeats 1000000 in
theorem lSIndex (s : Str) (c : UInt8) (w : World) : Calls Try.prog 32 #[txtV s, txtV [c]] w (Ret (.int .i64 (Lib.indexByte s c)) w) := by
  by_cases he : [c] = s
  · subst he
    have h0 : Lib.indexByte [c] c = 0 := by simp [Lib.indexByte]
    rw [h0]
    unfold txtV
    go_enter Try.func32, Try.ntmps32
    go_wp2_with fail
    go_ret
    exact ⟨rfl, Upd.refl _ _⟩
  · have cI := fun w => lIxByte s c w
    unfold txtV at *
    have he' : ([c] == s) = false := by simpa using he
    have he2 : ([c] = s) = False := eq_false he
    clear he
    go_enter Try.func32, Try.ntmps32
    go_wp2_with fail
    refine (cI w).mono ?_
    rintro e w' ⟨rfl, hu⟩
    simp only []
    go_wp2_with fail
    go_ret
    exact ⟨rfl, hu⟩
theorem lIndex (s : Str) (c : UInt8) (w : World) : Calls Try.prog 31 #[txtV s, txtV [c]] w (Ret (.int .i64 (Lib.indexByte s c)) w) := by
  have cI := fun w => lSIndex s c w
  unfold txtV at *
  go_enter Try.func31, Try.ntmps31
  go_wp2_with fail
  refine (cI w).mono ?_
  rintro e w' ⟨rfl, hu⟩
  simp only []
  go_wp2_with fail
  go_ret
  exact ⟨rfl, hu⟩
theorem lHasPrefix (s p : Str) (w : World) : Calls Try.prog 26 #[txtV s, txtV p] w (Ret (.bool (begins s p)) w) := by
  have cI := fun w => lHasP s p w
  unfold txtV at *
  go_enter Try.func26, Try.ntmps26
  go_wp2_with fail
  refine (cI w).mono ?_
  rintro e w' ⟨rfl, hu⟩
  simp only []
  go_wp2_with fail
  go_ret
  exact ⟨rfl, hu⟩
set_option maxHeartbeats 1000000 in
theorem rBegins (s p : Str) (w : World) : Calls Try.prog 28 #[txtV s, txtV p] w (Ret (.bool (begins s p)) w) := by
  unfold txtV
  by_cases h : p.length ≤ s.length
  · have h' : (p.length : Int) ≤ (s.length : Int) := by omega
    have hsub := run_subTo (P := Try.prog) 9 Try.underlying9 s p.length p.length rfl h
    have hb : begins s p = (s.take p.length == p) := by rw [begins_iff]; simp [h]
    rw [hb]
    go_enter Try.func28, Try.ntmps28
    go_wp2_with fail
    go_ret
    exact ⟨by simp, Upd.refl _ _⟩
  · have h' : ¬ (p.length : Int) ≤ (s.length : Int) := by omega
    have hb : begins s p = false := by rw [begins_iff]; simp [h]
    rw [hb]
    go_enter Try.func28, Try.ntmps28
    go_wp2_with fail
    go_ret
    exact ⟨rfl, Upd.refl _ _⟩
theorem size_entry : Hid ((Try.prog.info? 47).map (·.size) = some 2) := Lib.hid (by kernel_rfl)
theorem cell2 {w : World} {b : Nat} {c0 c1 : Value} {t : TypeId} (h : w.heap[b]? = some (.cells #[c0, c1] t (0, 0))) : w.cell? ⟨b, 0, none⟩ = some c0 ∧ w.cell? ⟨b, 1, none⟩ = some c1 := ⟨(cells_of h).1 0, (cells_of h).1 1⟩
abbrev entV (x : Ent) : Value := .agg #[txtV x.1, .bool x.2]
theorem len1 {d : Str} (h : d.length ≤ 1) : d = [] ∨ ∃ c, d = [c] := by
  match d, h with
  | [], _ => exact .inl rfl
  | [c], _ => exact .inr ⟨c, rfl⟩
  | _ :: _ :: _, h => simp at h
set_option maxHeartbeats 2000000 in
theorem lOf (s p d : Str) (w : World) (hd : d.length ≤ 1) (hp : p.length ≤ s.length) (hs : s.length ≤ 140737488355328) : Calls Try.prog 27 #[txtV s, txtV p, txtV d] w (Ret (entV (entOf s p d)) w) := by
  rcases len1 hd with rfl | ⟨c, rfl⟩
  · have he : entOf s p [] = (s, false) := rfl
    rw [he]
    unfold entV txtV
    go_enter Try.func27, Try.ntmps27
    go_wp2_with fail
    exact bodyPost_ret (v := .agg #[.string ⟨s.toArray⟩, .bool false]) (by simp [results, Try.results27, go_sem]; try rfl) rfl ⟨rfl, by (repeat (first | (with_reducible exact Upd.refl _ _) | (with_reducible assumption) | (with_reducible refine Upd.then_drew ?_) | (with_reducible refine Upd.then_drewN ?_ _) | (with_reducible refine Upd.then_alloc ?_ _) | (with_reducible refine Upd.then_setCell ?_ (fun h => absurd h (by simp <;> omega)) _) | (with_reducible refine Upd.trans ?_ (Upd.non (by assumption)) (fun _ _ h => h))))⟩
  · have cI := fun w' => lIndex (s.drop p.length) c w'
    rw [indexByte_find] at cI
    have hsub := run_subFrom (P := Try.prog) 9 Try.underlying9 s p.length p.length rfl hp
    cases hf : (s.drop p.length).findIdx? (· == c) with
    | none =>
      have he : entOf s p [c] = (s, false) := by unfold entOf; simp only [hf]
      rw [he]
      rw [hf] at cI
      simp only at cI
      clear hf
      unfold entV txtV at *
      go_enter Try.func27, Try.ntmps27
      go_wp2_with fail
      refine (cI _).mono ?_
      rintro e w1 ⟨rfl, hu⟩
      have hh := (hu.heap (heap_alloc_new _ _) fun h => h)
      have hU := (Upd.alloc Non w _).trans hu fun _ _ h => h
      clear hu
      simp only []
      go_wp2_with (refine storeB_list rfl 47 _ _ rfl w.heap.size #[.string ⟨s.toArray⟩, .bool false] _ _ rfl rfl hh rfl size_entry.out (by simp [Value.oneCell']) ?_)
      intro w2 h2 hu2
      obtain ⟨x0, x1⟩ := cell2 h2
      have hU2 := hU.trans hu2 (fun k hk e => by omega)
      clear hh h2 hu2 hU
      go_wp2_with fail
      refine bodyPost_ret (v := .agg #[.string ⟨s.toArray⟩, .bool false]) (by simp [results, Try.results27, go_sem, x0, x1]; try rfl) rfl ⟨rfl, hU2⟩
    | some i =>
      have hi : i < (s.drop p.length).length := by
        have := (List.findIdx?_eq_some_iff_getElem.1 hf)
        exact this.1
      rw [List.length_drop] at hi
      have he : entOf s p [c] = (s.take (p.length + i + 1), true) := by unfold entOf; simp only [hf]
      rw [he]
      rw [hf] at cI
      simp only at cI
      clear hf
      have hw1 := IntWalk.i64_in ((p.length : Int) + i) ⟨by omega, by omega⟩
      have hw2 := IntWalk.i64_in ((p.length : Int) + i + 1) ⟨by omega, by omega⟩
      have hw3 := IntWalk.wrap64_in ((p.length : Int) + i) ⟨by omega, by omega⟩
      have hw4 := IntWalk.wrap64_in ((p.length : Int) + i + 1) ⟨by omega, by omega⟩
      have hsub2 := run_subTo (P := Try.prog) 9 Try.underlying9 s ((p.length : Int) + i + 1) (p.length + i + 1) (by omega) (by omega)
      generalize s.take (p.length + i + 1) = t at *
      unfold entV txtV at *
      have hi0 : (0 : Int) ≤ (i : Int) := by omega
      go_enter Try.func27, Try.ntmps27
      go_wp2_with fail
      refine (cI _).mono ?_
      rintro e w1 ⟨rfl, hu⟩
      have hh := (hu.heap (heap_alloc_new _ _) fun h => h)
      have hU := (Upd.alloc Non w _).trans hu fun _ _ h => h
      clear hu
      simp only []
      go_wp2_with (refine storeB_list rfl 47 _ _ rfl w.heap.size #[.string ⟨t.toArray⟩, .bool true] _ _ rfl rfl hh rfl size_entry.out (by simp [Value.oneCell']) ?_)
      intro w2 h2 hu2
      obtain ⟨x0, x1⟩ := cell2 h2
      have hU2 := hU.trans hu2 (fun k hk e => by omega)
      clear hh h2 hu2 hU
      go_wp2_with fail
      refine bodyPost_ret (v := .agg #[.string ⟨t.toArray⟩, .bool true]) (by simp [results, Try.results27, go_sem, x0, x1]; try rfl) rfl ⟨rfl, hU2⟩
end Go.Proofs.Ytphdclafeijpnaa
