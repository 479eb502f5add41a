/- Acts that came in; the walk over ambrylaw07.begun. -/
import Derived.Test.YteeppclnmjlcbaaAX
import Derived.Deep.RegionHeld3
namespace Go.Proofs.Yteeppclnmjlcbaa
open Go.RowKit Go.Amb
set_option linter.unusedVariables false

abbrev Act3 := Int × Int × Int
def ac (x : Act3) : List Value := [.int .i64 x.1, .int .i64 x.2.1, .int .i64 x.2.2]
def acs (l : List Act3) : List Value := l.flatMap ac
theorem acs_get (l : List Act3) : ∀ (k : Nat) (h : k < l.length), (acs l)[k * 3]? = some (.int .i64 l[k].1) ∧ (acs l)[k * 3 + 1]? = some (.int .i64 l[k].2.1) ∧ (acs l)[k * 3 + 2]? = some (.int .i64 l[k].2.2) := by
  induction l with
  | nil => intro k h; cases h
  | cons p l ih =>
    intro k h
    cases k with
    | zero => exact ⟨rfl, rfl, rfl⟩
    | succ k =>
      have := ih k (by simpa using h)
      rw [show (k + 1) * 3 = k * 3 + 3 by omega, show k * 3 + 3 + 1 = k * 3 + 1 + 3 by omega, show k * 3 + 3 + 2 = k * 3 + 2 + 3 by omega]
      exact this
/-- A number that fits. -/
def okInt (x : Int) : Prop := -9223372036854775808 ≤ x ∧ x ≤ 9223372036854775807
def okAct (x : Act3) : Prop := okInt x.1 ∧ okInt x.2.1 ∧ okInt x.2.2
/-- Acts that came in. -/
abbrev Acts (w : World) (v : Value) (l : List Act3) : Prop := Has w 3 v l.length (acs l)
theorem acts_at {w : World} {v : Value} {l : List Act3} (h : Acts w v l) : ∃ a c, v = .slice a l.length c ∧ ∀ k, k < l.length → ∃ g off x, a = some ⟨g, off, none⟩ ∧ l[k]? = some x ∧ w.cell? ⟨g, off + k * 3, none⟩ = some (.int .i64 x.1) ∧
    w.cell? ⟨g, off + k * 3 + 1, none⟩ = some (.int .i64 x.2.1) ∧ w.cell? ⟨g, off + k * 3 + 2, none⟩ = some (.int .i64 x.2.2) ∧ g < w.heap.size := by
  obtain ⟨hl, a, c, rfl, h1, h2, h3⟩ := h
  refine ⟨a, c, rfl, fun k hk => ?_⟩
  rcases h3 with h3 | ⟨g, off, rfl, hc⟩
  · omega
  · obtain ⟨g0, g1, g2⟩ := acs_get l k hk
    exact ⟨g, off, l[k], rfl, List.getElem?_eq_getElem hk, hc _ _ g0, by rw [Nat.add_assoc]; exact hc _ _ g1, by rw [Nat.add_assoc]; exact hc _ _ g2, by simpa using World.block_lt_of_cell? w _ (hc _ _ g0)⟩
/-- An alloc of 100 pages is told. -/
def Begun (w : World) : Ending → World → Prop := fun e w' => ∃ r g B, e = .returned (.pointer (some ⟨r, 0, none⟩)) ∧ Ours w w' r g 100 B
set_option maxHeartbeats 4000000 in
theorem lBegun (v : Value) (l : List Act3) (w : World) (hP : Acts w v l) (hok : ∀ x ∈ l, okAct x) (hl : l.length < 9223372036854775808) : Calls Try.prog 8 #[v] w (Begun w) := by
  obtain ⟨a, c, rfl, hat⟩ := acts_at hP
  replace hat := Lib.hid hat
  replace hok := Lib.hid hok
  clear hP
  go_enter Try.func8, Try.ntmps8
  go_wp2_with fail
  refine (aNew 100 w (by omega)).mono ?_
  rintro e w1 ⟨r, g, rfl, hA, hu, hr, hg⟩
  have hO : Ours w w1 r g 100 0 := ⟨hA, hu, hg, hr⟩
  clear hA hu hr
  replace hg := Lib.hid hg
  go_wp2_with fail
  go_loopw [5] (fun iv wr => ∃ i B : Nat, iv = .int .i64 (i : Int) ∧ i ≤ l.length ∧ Ours w wr r g 100 B) (fun iv _ => l.length - (intOf iv).toNat)
  case atStart => exact ⟨0, 0, rfl, by omega, hO⟩
  case round =>
    obtain ⟨i, B, rfl, hi, hO1⟩ := hrel
    have hU := hO1.upd
    clear hO
    by_cases hil : i < l.length
    · obtain ⟨gl, off, x, rfl, hx, x0, x1, x2, hgl⟩ := hat.out i hil
      have hxo := hok.out x (List.mem_of_getElem? hx)
      obtain ⟨⟨o1, o2⟩, ⟨o3, o4⟩, o5, o6⟩ := hxo
      have y0 := hU.cell x0 fun h => h
      have y1 := hU.cell x1 fun h => h
      have y2 := hU.cell x2 fun h => h
      clear x0 x1 x2 hx
      obtain ⟨k, p, q⟩ := x
      simp only at y0 y1 y2 o1 o2 o3 o4 o5 o6
      have hgne : gl ≠ g := by have := hg.out; omega
      have hlt : (i : Int) < (l.length : Int) := by omega
      have hi0 : (0 : Int) ≤ (i : Int) := by omega
      by_cases h300 : i < 300
      · have h300' : (i : Int) < 300 := by omega
        by_cases hk1 : k = 1
        · subst hk1
          go_wp2_with fail
          refine (oClaim hO1 p).mono ?_
          rintro e w2 ⟨rfl, hO2, -⟩
          go_wp2_with fail
          go_roundw
          case rel => exact ⟨i + 1, _, by go_num, by omega, hO2⟩
          case measure => simp [intOf]; omega
        · have n1 : (k == 1) = false := by simpa using hk1
          by_cases hk2 : k = 2
          · subst hk2
            go_wp2_with fail
            go_region_held3 (fun w' => w'.cell? ⟨gl, off + i * 3 + 1, none⟩ = some (.int .i64 p) ∧ w'.cell? ⟨gl, off + i * 3 + 2, none⟩ = some (.int .i64 q)) (first | exact ⟨z1, z2⟩ | exact ⟨y1, y2⟩ | go_keep)
              ((go_at_call 14; refine (oGive (hO1.non (Upd.drew _ _)) p q (by omega) (by omega)).mono ?_; rintro e w2 ⟨rfl, hO2, hu2⟩; have z1 := hu2.cell (a := ⟨gl, off + i * 3 + 1, none⟩) y1 hgne; have z2 := hu2.cell (a := ⟨gl, off + i * 3 + 2, none⟩) y2 hgne))
            all_goals
              go_wp2_with fail
              go_roundw
              case rel => exact ⟨i + 1, _, by go_num, by omega, hO2⟩
              case measure => simp [intOf]; omega
          · have n2 : (k == 2) = false := by simpa using hk2
            go_wp2_with fail
            refine (oTake hO1 q (by omega)).mono ?_
            rintro e w2 ⟨rfl, hO2, -⟩
            go_wp2_with fail
            go_roundw
            case rel => exact ⟨i + 1, _, by go_num, by omega, hO2⟩
            case measure => simp [intOf]; omega
      · have h300' : ¬ (i : Int) < 300 := by omega
        go_wp2_with fail
        go_ret
        exact ⟨r, g, B, rfl, hO1⟩
    · have hlt : ¬ (i : Int) < (l.length : Int) := by omega
      go_wp2_with fail
      go_ret
      exact ⟨r, g, B, rfl, hO1⟩
end Go.Proofs.Yteeppclnmjlcbaa
