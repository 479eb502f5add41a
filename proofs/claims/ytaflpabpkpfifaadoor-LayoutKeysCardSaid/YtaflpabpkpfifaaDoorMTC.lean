/- The walks over package tuple: a key's bytes. -/
import Derived.Test.YtaflpabpkpfifaaDoorMTB
namespace Go.Proofs.YtaflpabpkpfifaaDoor
open Go.RowKit Go.Amb
set_option linter.unusedVariables false
attribute [local go_sem ↓] Go.wp_at_zero Go.wp_at_succ

theorem bytes_form {w : World} {v : Value} {s : List UInt8} (h : Bytes w v s) : ∃ a c, v = .slice a s.length c := by
  obtain ⟨hl, a, c, rfl, h1, h2, h3⟩ := h
  exact ⟨a, c, rfl⟩
def pc (p : Part) : List Value := [.int .i64 p.k, .int .i64 p.n, .string ⟨p.s.toArray⟩]
def pcs (l : List Part) : List Value := l.flatMap pc
theorem pcs_get (l : List Part) : ∀ (k : Nat) (h : k < l.length), (pcs l)[k * 3]? = some (.int .i64 l[k].k) ∧ (pcs l)[k * 3 + 1]? = some (.int .i64 l[k].n) ∧ (pcs l)[k * 3 + 2]? = some (.string ⟨l[k].s.toArray⟩) := by
  induction l with
  | nil => intro k h; cases h
  | cons p l ih =>
    intro k h
    cases k with
    | zero => exact ⟨rfl, rfl, rfl⟩
    | succ k =>
      have := ih k (by simpa using h)
      rw [show (k + 1) * 3 = k * 3 + 3 by omega, show k * 3 + 3 + 1 = k * 3 + 1 + 3 by omega, show k * 3 + 3 + 2 = k * 3 + 2 + 3 by omega]
      exact this
theorem pcs_length (l : List Part) : (pcs l).length = l.length * 3 := by
  induction l with
  | nil => rfl
  | cons p l ih =>
    show (pc p ++ pcs l).length = _
    rw [List.length_append, ih]; simp [pc]; omega
/-- A slice of parts. -/
abbrev Parts (w : World) (v : Value) (l : List Part) : Prop := Has w 3 v l.length (pcs l)
theorem parts_at {w : World} {v : Value} {l : List Part} (h : Parts w v l) : ∃ a c, v = .slice a l.length c ∧ l.length ≤ c ∧ c ≤ maxLen ∧ ∀ k (hk : k < l.length), ∃ g off, a = some ⟨g, off, none⟩ ∧ w.cell? ⟨g, off + k * 3, none⟩ = some (.int .i64 l[k].k) ∧
    w.cell? ⟨g, off + k * 3 + 1, none⟩ = some (.int .i64 l[k].n) ∧ w.cell? ⟨g, off + k * 3 + 2, none⟩ = some (.string ⟨l[k].s.toArray⟩) := by
  obtain ⟨hl, a, c, rfl, h1, h2, h3⟩ := h
  refine ⟨a, c, rfl, h1, h2, fun k hk => ?_⟩
  rcases h3 with h3 | ⟨g, off, rfl, hc⟩
  · omega
  · obtain ⟨g0, g1, g2⟩ := pcs_get l k hk
    exact ⟨g, off, rfl, hc _ _ g0, by rw [Nat.add_assoc]; exact hc _ _ g1, by rw [Nat.add_assoc]; exact hc _ _ g2⟩

/-- What Encode tells: the bytes, the error. -/
def encR (l : List Part) : List UInt8 × Int := if l.all rightP then (if (encB l).length ≤ 128 then (encB l, 0) else ([], 5)) else ([], 2)
theorem encB_take_le (l : List Part) (k : Nat) : (encB (l.take k)).length ≤ (encB l).length := by
  conv => rhs; rw [← List.take_append_drop k l, encB_append, List.length_append]
  omega
theorem take_snoc {α : Type} (l : List α) (k : Nat) (h : k < l.length) : l.take (k + 1) = l.take k ++ [l[k]] := by rw [List.take_succ_eq_append_getElem h]
theorem encR_arg {l : List Part} {k : Nat} (h : k < l.length) (hr : rightP l[k] = false) : encR l = ([], 2) := by
  unfold encR
  rw [if_neg]
  intro e
  have := List.all_eq_true.1 e l[k] (List.getElem_mem h)
  rw [hr] at this
  cases this
theorem encR_big {l : List Part} {k : Nat} (hr : l.all rightP = true) (h : 128 < (encB (l.take k)).length) : encR l = ([], 5) := by
  unfold encR
  rw [if_pos hr, if_neg]
  have := encB_take_le l k
  omega
theorem encR_ok {l : List Part} (hr : l.all rightP = true) (h : (encB l).length ≤ 128) : encR l = (encB l, 0) := by
  unfold encR
  rw [if_pos hr, if_pos h]
theorem size_text {p : Part} (hr : rightP p = true) : p.s.length ≤ (partB p).length := by
  rcases rightP_kind hr with ⟨h1, _⟩ | ⟨_, h2⟩ | ⟨_, h2⟩
  · rw [partB_length p hr]; unfold sizeP sizeP.s0; rw [if_pos h1]; omega
  · rw [h2]; simp
  · rw [h2]; simp

set_option maxRecDepth 100000 in
set_option maxHeartbeats 2000000 in
theorem tEncode (v : Value) (l : List Part) (w : World) (hn : ∀ p ∈ l, numOk p ∧ p.s.length ≤ 140737488355328) (hP : Parts w v l) :
    Calls Tryd.prog 58 #[v] w (Ret (.tuple #[.string ⟨(encR l).1.toArray⟩, .int .i64 (encR l).2]) w) := by
  obtain ⟨a, c, rfl, hlc, hc, hcell⟩ := parts_at hP
  have hmx := hc
  unfold maxLen at hmx
  replace hcell := Lib.hid hcell
  go_enter Tryd.func58, Tryd.ntmps58
  go_wp2_with fail
  go_loopw [11] (fun i wr => ∃ k : Nat, k ≤ l.length ∧ i = .int .i64 k ∧ (l.take k).all rightP = true ∧ Upd Non w wr) (fun i _ => l.length - (intOf i).toNat)
  case atStart => exact ⟨0, by omega, rfl, rfl, Upd.refl _ _⟩
  case round =>
    obtain ⟨k, hk, rfl, hr, hu⟩ := hrel
    replace hr := Lib.hid hr
    by_cases hlt : k < l.length
    · obtain ⟨g, off, rfl, c0, c1, c2⟩ := hcell.out k hlt
      replace c0 := hu.cell c0 fun h => h
      replace c1 := hu.cell c1 fun h => h
      replace c2 := hu.cell c2 fun h => h
      have ht := Lib.hid (take_snoc l k hlt)
      have harg := Lib.hid (fun h => encR_arg (l := l) hlt h)
      generalize hp : l[k] = p at *
      replace hp := Lib.hid hp
      go_wp2_with fail
      refine (tRight p _).mono ?_
      rintro e w1 ⟨rfl, hu1⟩
      have hu2 := hu.trans ((Upd.alloc Non _ _).trans hu1 fun _ _ h => h) fun _ _ h => h
      cases hrp : rightP p with
      | true =>
        go_wp2_with fail
        go_roundw
        case rel => exact ⟨k + 1, by omega, by go_num, by rw [ht.out, List.all_append, hr.out]; simp [hrp], hu2⟩
        case measure => simp [intOf]; omega
      | false =>
        have he := Lib.hid (harg.out hrp)
        go_wp2_with fail
        go_ret2
        exact ⟨by rw [he.out]; rfl, hu2⟩
    · obtain rfl : k = l.length := by omega
      rw [List.take_length] at hr
      go_wp2_with fail
      have hall := hr
      obtain ⟨wo, rfl⟩ : ∃ wo : World, wo = wr := ⟨_, rfl⟩
      go_loopw [6, 21] (fun b i wr => ∃ k : Nat, k ≤ l.length ∧ i = .int .i64 k ∧ Own wr w.heap.size 5 b (encB (l.take k)) ∧ (encB (l.take k)).length ≤ 128 ∧ Upd Non w wr) (fun _ i _ => l.length - (intOf i).toNat)
      case atStart => exact ⟨0, by omega, rfl, World.ownsRow_nil _ _ _ _, by simp [encB_nil], hu⟩
      case round =>
        obtain ⟨k, hk, rfl, ho, hb, hu⟩ := hrel
        have hsz := hu.size
        by_cases hlt : k < l.length
        · obtain ⟨g, off, rfl, c0, c1, c2⟩ := hcell.out k hlt
          replace c0 := hu.cell c0 fun h => h
          replace c1 := hu.cell c1 fun h => h
          replace c2 := hu.cell c2 fun h => h
          have hnp := hn l[k] (List.getElem_mem hlt)
          have hrp := List.all_eq_true.1 hall.out l[k] (List.getElem_mem hlt)
          have hst := size_text hrp
          have hbig := fun h => encR_big (l := l) (k := k + 1) hall.out h
          rw [take_snoc l k hlt, encB_snoc] at hbig
          have ht := Lib.hid (take_snoc l k hlt)
          generalize hp : l[k] = p at *
          replace hp := Lib.hid hp
          replace hrp := Lib.hid hrp
          replace hbig := Lib.hid hbig
          obtain ⟨hn1, hn2⟩ := hnp
          by_cases hs : p.s.length ≤ 128
          · go_wp2_with fail
            refine (tPut w.heap.size u6 (encB (l.take k)) p _ hn1 (ho.alloc _) (by omega) (by simp; omega)).mono ?_
            rintro e w3 ⟨v3, rfl, ho3, hu3, hf3⟩
            have hlen3 := ho3.bytes.len
            obtain ⟨a3, c3, hv3⟩ := bytes_form ho3.bytes
            subst hv3
            have hu4 := hu.trans ((Upd.alloc (At u6) _ _).trans hu3 fun _ _ h => h) fun j hj h => absurd (own_ge ho h) (by omega)
            clear hlen3 hf3 hu3
            generalize hm : (encB (l.take k) ++ partB p).length = m at *
            replace hm := Lib.hid hm
            replace ho3 := Lib.hid ho3
            by_cases h128 : m ≤ 128
            · have h128' : ¬ (128 : Int) < m := by omega
              go_wp2_with fail
              go_roundw
              case rel => exact ⟨k + 1, by omega, by go_num, by rw [ht.out, encB_snoc]; exact ho3.out, by rw [ht.out, encB_snoc, hm.out]; exact h128, hu4⟩
              case measure => simp [intOf]; omega
            · have h128' : (128 : Int) < m := by omega
              go_wp2_with fail
              go_ret2
              exact ⟨by rw [hbig.out (by omega)]; rfl, hu4⟩
          · have h129 : 128 < p.s.length := by omega
            go_wp2_with fail
            go_ret2
            exact ⟨by rw [hbig.out (by rw [List.length_append]; omega)]; rfl, hu.trans (Upd.alloc Non _ _) fun _ _ h => h⟩
        · obtain rfl : k = l.length := by omega
          rw [List.take_length] at ho hb
          have hstr := run_str (P := Tryd.prog) _ 86 9 5 Tryd.underlying86 Tryd.underlying5 Tryd.underlying9 _ _ ho.bytes
          go_wp2_with fail
          go_ret2
          exact ⟨by rw [encR_ok hall.out hb]; rfl, hu⟩

end Go.Proofs.YtaflpabpkpfifaaDoor
