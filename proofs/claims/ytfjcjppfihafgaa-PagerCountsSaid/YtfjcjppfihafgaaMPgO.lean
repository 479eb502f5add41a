/- The law's begun. -/
import Derived.Test.YtfjcjppfihafgaaMPgM
namespace Go.Proofs.Ytfjcjppfihafgaa
open Go.RowKit Go.Amb Go.Shelf
set_option linter.unusedVariables false
set_option linter.unusedSimpArgs false
set_option maxRecDepth 100000
/-- A pager behind calls. -/
def Begun9 (w : World) : Ending → World → Prop := fun en w' => ∃ P D r g I F st d, en = .returned (.tuple #[.pointer (some ⟨P, 0, none⟩), .pointer (some ⟨D, 0, none⟩)]) ∧ Pg w w' P D F r g I 3 st d ∧ st.length = 8 ∧ d.P.length ≤ 800
/-- A call's parts, at any world behind. -/
theorem act_at {w : World} {a : Option Addr} {l : List Ac9} (hx : ∀ i (hi : i < l.length), AcOk9 w l[i] ∧ ∃ g off, a = some ⟨g, off, none⟩ ∧ ∀ j u, (acC9 l[i])[j]? = some u → w.cell? ⟨g, off + i * 4 + j, none⟩ = some u) {k : Nat} (hk : k < l.length) :
    ∃ (g off : Nat) (kind i : Int) (s : List UInt8) (va : Option Addr) (vc : Nat) (keep : List Int), a = some ⟨g, off, none⟩ ∧ s.length ≤ 140737488355328 ∧ Ints w (.slice va keep.length vc) keep ∧ (0 < keep.length → ∀ q, At (.slice va keep.length vc) q → q < w.heap.size) ∧
      ∀ w', Upd Non w w' → w'.cell? ⟨g, off + k * 4, none⟩ = some (.int .i64 kind) ∧ w'.cell? ⟨g, off + k * 4 + 1, none⟩ = some (.int .i64 i) ∧ w'.cell? ⟨g, off + k * 4 + 2, none⟩ = some (.string ⟨s.toArray⟩) ∧ w'.cell? ⟨g, off + k * 4 + 3, none⟩ = some (.slice va keep.length vc) := by
  obtain ⟨hok, g, off, rfl, hc⟩ := hx k hk
  have x0 : w.cell? ⟨g, off + k * 4 + 0, none⟩ = some (.int .i64 l[k].kind) := hc 0 _ rfl
  have x1 : w.cell? ⟨g, off + k * 4 + 1, none⟩ = some (.int .i64 l[k].i) := hc 1 _ rfl
  have x2 : w.cell? ⟨g, off + k * 4 + 2, none⟩ = some (.string ⟨l[k].s.toArray⟩) := hc 2 _ rfl
  have x3 : w.cell? ⟨g, off + k * 4 + 3, none⟩ = some l[k].v := hc 3 _ rfl
  generalize l[k] = y at *
  obtain ⟨kind, i, s, v, keep⟩ := y
  obtain ⟨hs, hI, hold⟩ := hok
  simp only at x0 x1 x2 x3 hs hI hold
  obtain ⟨_, va, vc, rfl, -⟩ := id hI
  exact ⟨g, off, kind, i, s, va, vc, keep, rfl, hs, hI, hold, fun w' hu => ⟨hu.cell x0 fun h => h, hu.cell x1 fun h => h, hu.cell x2 fun h => h, hu.cell x3 fun h => h⟩⟩
set_option maxHeartbeats 600000 in
theorem lBegun9 (v : Value) (l : List Ac9) (w : World) (hA : Acs9 w v l) : Calls Try.prog 17 #[v] w (Begun9 w) := by
  obtain ⟨a, c, rfl, hm, hx⟩ := hA.form
  unfold maxLen at hm
  replace hx := Lib.hid hx
  clear hA
  go_enter Try.func17, Try.ntmps17
  go_wp2_with fail
  refine (lvNew 70 (by decide) (by decide) w).mono ?_
  rintro en w1 ⟨D, F0, rfl, hL⟩
  have hK0 : (Dk.new 70).K.length = 70 := List.length_replicate ..
  have hlv : Liv (Dk.new 70) 70 := ⟨hK0, rfl, rfl⟩
  have cN := Lib.hid (gNew hL (by rw [hK0]; exact hlv) 3 8 (by decide) (by rw [hK0]; decide))
  go_wp2_with fail
  refine cN.out.mono ?_
  rintro en w2 ⟨P, r, g, I, rfl, h0, -⟩
  replace h0 : Pg w w2 P D F0 r g I 3 (List.replicate 8 0) (Dk.new 70) := h0
  replace h0 := Lib.hid h0
  clear cN hL hlv hK0
  go_wp2_with fail
  go_loopw [8] (fun iv wr => ∃ (k : Nat) (F : Nat → Prop) (st : List Nat) (d : Dk), iv = .int .i64 (k : Int) ∧ k ≤ l.length ∧ k ≤ 100 ∧ Hid (st.length = 8 ∧ d.P.length ≤ 8 * k ∧ Pg w wr P D F r g I 3 st d)) (fun iv _ => l.length - (intOf iv).toNat)
  case atStart => exact ⟨0, F0, _, _, rfl, Nat.zero_le _, Nat.zero_le _, Lib.hid ⟨rfl, Nat.le_refl _, h0.out⟩⟩
  case round =>
    clear h0
    obtain ⟨k, F, st, d, rfl, hk, hk1, hS⟩ := hrel
    by_cases hlt : k < l.length
    · have hltI : (k : Int) < (l.length : Int) := by omega
      have hk0 : (0 : Int) ≤ (k : Int) := by omega
      by_cases h100 : k < 100
      · have h100I : (k : Int) < 100 := by omega
        obtain ⟨gg, off, kind, i, s, va, vc, keep, rfl, hs, hI, hold, hc⟩ := act_at hx.out hlt
        have hU := hS.out.2.2.pb.lv.upd
        obtain ⟨x0, x1, x2, x3⟩ := hc _ hU
        have cP := Lib.hid (lPlay hS.out.2.2 (by have := hS.out.2.1; omega) kind i s _ keep hs (hI.non hU) (fun h0 q hq hO => by
          have h1 := hold h0 q hq
          have h2 := hS.out.2.2.pb.own_lo q hO
          omega))
        clear hs hI hold hc hU
        go_wp2_with fail
        refine cP.out.mono ?_
        rintro en w3 ⟨rfl, st', d', F', hG, -, hP', hl', -⟩
        have hN := Lib.hid (And.intro (hl'.trans hS.out.1) (And.intro (show d'.P.length ≤ 8 * (k + 1) by have := hS.out.2.1; omega) hG))
        clear hG hP' hl' cP x0 x1 x2 x3 hS
        go_wp2_with fail
        go_roundw
        case rel => exact ⟨k + 1, F', st', d', by go_num, by omega, by omega, hN⟩
        case measure => simp [intOf]; omega
      · have h100I : ¬ (k : Int) < 100 := by omega
        have h100b : decide ((k : Int) < 100) = false := decide_eq_false h100I
        go_wp2_with fail
        go_ret2
        exact ⟨P, D, r, g, I, F, st, d, rfl, hS.out.2.2, hS.out.1, by have := hS.out.2.1; omega⟩
    · have hltI : ¬ (k : Int) < (l.length : Int) := by omega
      go_wp2_with fail
      go_ret2
      exact ⟨P, D, r, g, I, F, st, d, rfl, hS.out.2.2, hS.out.1, by have := hS.out.2.1; omega⟩
/-- How pages stand to what they were behind the last Settle. -/
structure Rl (s0 s : List Nat) : Prop where
  len : s.length = s0.length
  at_ : ∀ i, (s0.getD i 0 = 0 → s.getD i 0 = 0 ∨ s.getD i 0 = 2) ∧ (s0.getD i 0 = 1 → s.getD i 0 = 1 ∨ s.getD i 0 = 3)
theorem Rl.mv {s0 s s' : List Nat} (h : Rl s0 s) (h01 : ∀ i, s0.getD i 0 = 0 ∨ s0.getD i 0 = 1) (hm : Mv s s') : Rl s0 s' := by
  rcases hm with rfl | ⟨i, hi, h2, rfl⟩ | ⟨i, hi, h2, rfl⟩ | ⟨i, hi, h2, rfl⟩ | rfl
  · exact h
  · refine ⟨(List.length_set ..).trans h.len, fun j => ?_⟩
    have hj := h.at_ j
    rw [getD_set]
    by_cases hij : i = j
    · subst hij
      rw [if_pos ⟨rfl, hi⟩]
      exact ⟨fun _ => .inr rfl, fun h1 => by rcases hj.2 h1 with e | e <;> omega⟩
    · rw [if_neg (fun e => hij e.1)]; exact hj
  · refine ⟨(List.length_set ..).trans h.len, fun j => ?_⟩
    have hj := h.at_ j
    rw [getD_set]
    by_cases hij : i = j
    · subst hij
      rw [if_pos ⟨rfl, hi⟩]
      exact ⟨fun _ => .inl rfl, fun h1 => by rcases hj.2 h1 with e | e <;> omega⟩
    · rw [if_neg (fun e => hij e.1)]; exact hj
  · refine ⟨(List.length_set ..).trans h.len, fun j => ?_⟩
    have hj := h.at_ j
    rw [getD_set]
    by_cases hij : i = j
    · subst hij
      rw [if_pos ⟨rfl, hi⟩]
      exact ⟨fun h1 => by rcases hj.1 h1 with e | e <;> omega, fun _ => .inr rfl⟩
    · rw [if_neg (fun e => hij e.1)]; exact hj
  · refine ⟨(List.length_map ..).trans h.len, fun j => ?_⟩
    have hj := h.at_ j
    rw [turn_getD 2 3 (by decide) (by decide)]
    refine ⟨fun h1 => ?_, fun h1 => ?_⟩
    · rcases hj.1 h1 with e | e <;> rw [e] <;> exact .inl rfl
    · rcases hj.2 h1 with e | e <;> rw [e] <;> exact .inl rfl
theorem Rl.undo {s0 s : List Nat} (h : Rl s0 s) (h01 : ∀ i, s0.getD i 0 = 0 ∨ s0.getD i 0 = 1) : turnL 2 3 s = s0 :=
  getD_ext ((List.length_map ..).trans h.len) fun i => by
    have hi := h.at_ i
    rw [turn_getD 2 3 (by decide) (by decide)]
    rcases h01 i with e | e
    · rw [e]
      rcases hi.1 e with e2 | e2 <;> rw [e2] <;> rfl
    · rw [e]
      rcases hi.2 e with e2 | e2 <;> rw [e2] <;> rfl
theorem settle_01 {st : List Nat} (h : ∀ s ∈ st, s < 4) (i : Nat) : (turnL 3 2 st).getD i 0 = 0 ∨ (turnL 3 2 st).getD i 0 = 1 := by
  rw [turn_getD 3 2 (by decide) (by decide)]
  have := getD_lt4 h i
  generalize st.getD i 0 = x at *
  match x, this with
  | 0, _ => exact .inl rfl
  | 1, _ => exact .inr rfl
  | 2, _ => exact .inr rfl
  | 3, _ => exact .inl rfl
theorem those_no (s : Nat) : ∀ (l : List Nat) (k : Nat), (∀ x ∈ l, x ≠ s) → those s k l = []
  | [], _, _ => rfl
  | x :: l, k, h => by rw [those, if_neg (h x (List.mem_cons_self ..))]; exact those_no s l (k + 1) fun y hy => h y (List.mem_cons_of_mem _ hy)
theorem mem_getD {l : List Nat} {x : Nat} (h : x ∈ l) : ∃ i, l.getD i 0 = x := by
  obtain ⟨i, hi, rfl⟩ := List.getElem_of_mem h
  exact ⟨i, by rw [List.getD_eq_getElem?_getD, List.getElem?_eq_getElem hi]; rfl⟩
end Go.Proofs.Ytfjcjppfihafgaa
