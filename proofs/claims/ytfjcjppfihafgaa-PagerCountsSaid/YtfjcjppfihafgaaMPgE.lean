/- The walks over package pager: those, Pages, Free. -/
import Derived.Test.YtfjcjppfihafgaaMPgC
import Derived.Test.YtfjcjppfihafgaaMLibB
namespace Go.Proofs.Ytfjcjppfihafgaa
set_option maxRecDepth 100000
open Go.RowKit Go.Amb
set_option linter.unusedVariables false
set_option linter.unusedSimpArgs false
def nV (l : List Nat) : List Value := l.map fun (k : Nat) => .int .i64 (k : Int)
/-- A row of numbers. -/
def Nats (w : World) (v : Value) (l : List Nat) : Prop := Has w 1 v l.length (nV l)
theorem nV_one (l : List Nat) : ∀ u ∈ nV l, u.oneCell' = true := by
  intro u hu
  obtain ⟨x, -, rfl⟩ := List.mem_map.1 hu
  rfl
theorem nV_snoc (l : List Nat) (k : Nat) : nV (l ++ [k]) = nV l ++ [.int .i64 (k : Int)] := by simp [nV]
theorem those_take (s : Nat) (st : List Nat) (k : Nat) (hk : k < st.length) : those s 0 (st.take (k + 1)) = those s 0 (st.take k) ++ if st.getD k 0 = s then [k] else [] := by
  rw [List.take_add_one, List.getElem?_eq_getElem hk, Option.toList_some, those_snoc, List.length_take, Nat.min_eq_left (by omega), Nat.zero_add, List.getD_eq_getElem?_getD, List.getElem?_eq_getElem hk]
  rfl
theorem those_len (s : Nat) : ∀ (l : List Nat) (j : Nat), (those s j l).length ≤ l.length
  | [], _ => Nat.le_refl _
  | x :: l, j => by
    have := those_len s l (j + 1)
    rw [those]
    split
    · simp only [List.length_cons]; omega
    · simp only [List.length_cons]; omega
theorem own_form {w : World} {base : Nat} {e : TypeId} {size : Nat} {v : Value} {n : Nat} {xs : List Value} (h : w.ownsRow base e size v n xs) : ∃ b c, v = .slice b n c := by
  obtain ⟨_, a, c, rfl, -⟩ := has_of_owns h
  exact ⟨a, c, rfl⟩
theorem info_int8 : Hid ((Try.prog.info? 3).map (fun i => (i.zero, i.size, i.bytes)) = some (some (.int .i64 0), 1, 8)) := Lib.hid (by kernel_rfl)
section
variable {w0 w w' : World} {P D : Nat} {F F' : Nat → Prop} {r g I fr : Nat} {st : List Nat} {B : Nat} {d : Dk}
/-- A new row of numbers is answered. -/
def NatsRet (l : List Nat) (w : World) : Ending → World → Prop := fun en w' => ∃ a c, en = .returned (.slice a l.length c) ∧ Nats w' (.slice a l.length c) l ∧ Upd Non w w' ∧ ∀ k, At (.slice a l.length c) k → w.heap.size ≤ k ∧ k < w'.heap.size
set_option maxHeartbeats 2000000 in
theorem gThose (h : Pb w0 w P D F r g I fr st B d) (s : Nat) : Calls Try.prog 30 #[.pointer (some ⟨P, 0, none⟩), .int .i64 (s : Int)] w (NatsRet (those s 0 st) w) := by
  have hi8 := info_int8
  have hn := h.al.most
  obtain ⟨p0, p1, p2, p3⟩ := cells4 h.cell
  have hx := Lib.hid (fun w' (hu : Upd Non w w') k hk => (h.non hu).at k hk)
  clear h
  go_enter Try.func30, Try.ntmps30
  go_wp2_with fail
  go_loopw [5, 13] (fun ov iv wr => ∃ (k : Nat), iv = .int .i64 (k : Int) ∧ k ≤ st.length ∧ wr.ownsRow w.heap.size 3 1 ov (those s 0 (st.take k)).length (nV (those s 0 (st.take k))) ∧ Upd Non w wr) (fun _ iv _ => st.length - (intOf iv).toNat)
  case atStart => exact ⟨0, rfl, Nat.zero_le _, ⟨by simp [those, nV], .inl ⟨rfl, rfl⟩⟩, Upd.refl _ _⟩
  case round =>
    clear p0 p1 p2 p3
    obtain ⟨k, rfl, hk, ho, hU⟩ := hrel
    by_cases hlt : k < st.length
    · have hltI : (k : Int) < (st.length : Int) := by omega
      have hk0 : (0 : Int) ≤ (k : Int) := by omega
      obtain ⟨x0, -⟩ := hx.out wr hU k hlt
      have htk := Lib.hid (those_take s st k hlt)
      have hl := those_len s (st.take k) 0
      rw [List.length_take] at hl
      generalize those s 0 (st.take k) = l at *
      obtain ⟨a, ha⟩ : ∃ a, st.getD k 0 = a := ⟨_, rfl⟩
      rw [ha] at x0 htk
      clear ha
      have hz := hU.size
      obtain ⟨oa, oc, rfl⟩ := own_form ho
      by_cases h1 : a = s
      · subst h1
        rw [if_pos rfl] at htk
        go_wp2_with (at_builtin; go_must (refine wpList_app1n rfl _ _ 23 rfl w.heap.size 3 (.int .i64 0) 1 8 Try.underlying23 hi8.out rfl _ _ _ rfl ho [.int .i64 (k : Int)] wr.heap.size rfl rfl rfl (nV_one [k]) (by unfold maxLen; omega) (by omega) hz ?_))
        intro v' w' ho' hu' hf'
        have hU' := hU.trans hu' (fun j hj h => by have := own_ge ho h; omega)
        obtain ⟨va, vc, rfl⟩ := own_form ho'
        clear ho hu' hf' hU x0
        go_wp2_with fail
        go_roundw
        case rel => exact ⟨k + 1, by go_num, by omega, by rw [htk.out, nV_snoc, List.length_append]; exact ho', hU'⟩
        case measure => simp [intOf]; omega
      · rw [if_neg h1, List.append_nil] at htk
        have h1b : ((a : Int) == (s : Int)) = false := by simp; omega
        go_wp2_with fail
        go_roundw
        case rel => exact ⟨k + 1, by go_num, by omega, by rw [htk.out]; exact ho, hU⟩
        case measure => simp [intOf]; omega
    · have hltI : ¬ (k : Int) < (st.length : Int) := by omega
      have hkn : Hid (st.take k = st) := Lib.hid (List.take_of_length_le (by omega))
      rw [hkn.out] at ho
      obtain ⟨oa, oc, rfl⟩ := own_form ho
      go_wp2_with fail
      go_ret
      exact ⟨oa, oc, rfl, has_of_owns ho, hU, fun q hq => ⟨own_ge ho hq, own_lt ho hq⟩⟩
theorem gPages (h : Pb w0 w P D F r g I fr st B d) : Calls Try.prog 9 #[.pointer (some ⟨P, 0, none⟩)] w (fun en w' => ∃ a1 c1 a2 c2 a3 c3, en = .returned (.tuple #[.slice a1 (those 1 0 st).length c1, .slice a2 (those 2 0 st).length c2, .slice a3 (those 3 0 st).length c3]) ∧
    Nats w' (.slice a1 (those 1 0 st).length c1) (those 1 0 st) ∧ Nats w' (.slice a2 (those 2 0 st).length c2) (those 2 0 st) ∧ Nats w' (.slice a3 (those 3 0 st).length c3) (those 3 0 st) ∧ Upd Non w w' ∧
    (∀ k, At (.slice a1 (those 1 0 st).length c1) k → w.heap.size ≤ k ∧ k < w'.heap.size) ∧ (∀ k, At (.slice a2 (those 2 0 st).length c2) k → w.heap.size ≤ k ∧ k < w'.heap.size) ∧ ∀ k, At (.slice a3 (those 3 0 st).length c3) k → w.heap.size ≤ k ∧ k < w'.heap.size) := by
  have hm := Lib.hid (gMade h)
  have ht := Lib.hid (fun w' (hu : Upd Non w w') s => gThose (h.non hu) s)
  clear h
  have h1 := Lib.hid (fun w' hu => ht.out w' hu 1)
  have h2 := Lib.hid (fun w' hu => ht.out w' hu 2)
  have h3 := Lib.hid (fun w' hu => ht.out w' hu 3)
  clear ht
  generalize those 1 0 st = l1 at *
  generalize those 2 0 st = l2 at *
  generalize those 3 0 st = l3 at *
  go_enter Try.func9, Try.ntmps9
  go_wp2_with fail
  refine hm.out.mono ?_
  rintro en w1 ⟨rfl, hu⟩
  go_wp2_with fail
  refine (h1.out _ hu).mono ?_
  rintro en w2 ⟨a1, c1, rfl, hN1, hu2, hl1⟩
  have hz1 := hu.size
  replace hu := hu.trans hu2 fun _ _ h => h
  replace hl1 := Lib.hid hl1
  clear hu2
  go_wp2_with fail
  refine (h2.out _ hu).mono ?_
  rintro en w3 ⟨a2, c2, rfl, hN2, hu2, hl2⟩
  have hz2 := hu.size
  have hz5 := hu2.size
  replace hu := hu.trans hu2 fun _ _ h => h
  replace hN1 := hN1.non hu2
  replace hl2 := Lib.hid hl2
  clear hu2
  go_wp2_with fail
  refine (h3.out _ hu).mono ?_
  rintro en w4 ⟨a3, c3, rfl, hN3, hu2, hl3⟩
  have hz3 := hu.size
  have hz4 := hu2.size
  replace hu := hu.trans hu2 fun _ _ h => h
  replace hN1 := hN1.non hu2
  replace hN2 := hN2.non hu2
  replace hl3 := Lib.hid hl3
  clear hu2
  go_wp2_with fail
  refine bodyPost_ret (v := .tuple #[.slice a1 l1.length c1, .slice a2 l2.length c2, .slice a3 l3.length c3]) (by simp [results, Try.results9, go_sem]; try rfl) rfl ⟨a1, c1, a2, c2, a3, c3, rfl, hN1, hN2, hN3, hu, fun k hk => by have := hl1.out k hk; omega, fun k hk => by have := hl2.out k hk; omega, fun k hk => by have := hl3.out k hk; omega⟩
theorem gFree (h : Pb w0 w P D F r g I fr st (stB st) d) : Calls Try.prog 15 #[.pointer (some ⟨P, 0, none⟩)] w (Ret (.int .i64 (freeN st : Int)) w) := by
  have hm := Lib.hid (gMade h)
  have ha := Lib.hid (fun w' (hu : Upd Non w w') => aFree r g st.length (stB st) w' (h.non hu).al)
  have e : st.length - popc st.length (stB st) = freeN st := by have := popc_stB st; omega
  rw [e] at ha
  have hc := Lib.hid (fun w' (hu : Upd Non w w') => cells4 (h.non hu).cell)
  clear h e
  go_enter Try.func15, Try.ntmps15
  go_wp2_with fail
  refine hm.out.mono ?_
  rintro en w1 ⟨rfl, hu⟩
  obtain ⟨p0, p1, p2, p3⟩ := hc.out _ hu
  go_wp2_with fail
  refine (ha.out _ hu).mono ?_
  rintro en w2 ⟨rfl, hu2⟩
  replace hu := hu.trans hu2 fun _ _ h => h
  go_wp2_with fail
  go_ret
  exact ⟨rfl, hu⟩
end
end Go.Proofs.Ytfjcjppfihafgaa
