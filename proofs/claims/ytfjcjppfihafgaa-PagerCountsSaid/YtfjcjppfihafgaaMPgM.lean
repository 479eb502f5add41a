/- The law's few, play. -/
import Derived.Test.YtfjcjppfihafgaaMPgJ
import Derived.Test.YtfjcjppfihafgaaMPgL
namespace Go.Proofs.Ytfjcjppfihafgaa
open Go.RowKit Go.Amb Go.Shelf
set_option linter.unusedVariables false
set_option linter.unusedSimpArgs false
set_option maxRecDepth 100000
/-- A call of the law. -/
structure Ac9 where
  kind : Int
  i : Int
  s : List UInt8
  v : Value
  keep : List Int
def acC9 (a : Ac9) : Array Value := #[.int .i64 a.kind, .int .i64 a.i, .string ⟨a.s.toArray⟩, a.v]
structure AcOk9 (w : World) (a : Ac9) : Prop where
  s : a.s.length ≤ 140737488355328
  has : Ints w a.v a.keep
  old : 0 < a.keep.length → ∀ k, At a.v k → k < w.heap.size
/-- Calls that lie in a row. -/
structure Acs9 (w : World) (v : Value) (l : List Ac9) : Prop where
  form : ∃ a c, v = .slice a l.length c ∧ l.length ≤ maxLen ∧ ∀ i (hi : i < l.length), AcOk9 w l[i] ∧ ∃ g off, a = some ⟨g, off, none⟩ ∧ ∀ j u, (acC9 l[i])[j]? = some u → w.cell? ⟨g, off + i * 4 + j, none⟩ = some u
/-- Calls are few, or not. -/
def FewRet (n : Nat) (w : World) : Ending → World → Prop := fun en w' => ∃ b, (en = .returned (.bool b) ∧ (b = true → n ≤ 100)) ∧ Upd Non w w'
set_option maxHeartbeats 2000000 in
theorem lFew9 (v : Value) (l : List Ac9) (w : World) (hA : Acs9 w v l) : Calls Try.prog 18 #[v] w (FewRet l.length w) := by
  obtain ⟨a, c, rfl, hm, hx⟩ := hA.form
  unfold maxLen at hm
  replace hx := Lib.hid hx
  clear hA
  by_cases h100 : 100 < l.length
  · have hb : decide ((100 : Int) < (l.length : Int)) = true := decide_eq_true (by omega)
    go_enter Try.func18, Try.ntmps18
    go_wp2_with fail
    go_ret
    exact ⟨false, ⟨rfl, fun h => by cases h⟩, Upd.refl _ _⟩
  · have hb : decide ((100 : Int) < (l.length : Int)) = false := decide_eq_false (by omega)
    have hle : Hid (l.length ≤ 100) := Lib.hid (by omega)
    clear h100
    go_enter Try.func18, Try.ntmps18
    go_wp2_with fail
    go_loopw [3] (fun iv wr => ∃ (k : Nat), iv = .int .i64 (k : Int) ∧ k ≤ l.length ∧ Upd Non w wr) (fun iv _ => l.length - (intOf iv).toNat)
    case atStart => exact ⟨0, rfl, Nat.zero_le _, Upd.refl _ _⟩
    case round =>
      obtain ⟨k, rfl, hk, hU⟩ := hrel
      by_cases hlt : k < l.length
      · have hltI : (k : Int) < (l.length : Int) := by omega
        have hk0 : (0 : Int) ≤ (k : Int) := by omega
        obtain ⟨hok, gg, off, rfl, hc⟩ := hx.out k hlt
        have x2 : wr.cell? ⟨gg, off + k * 4 + 2, none⟩ = some (.string ⟨l[k].s.toArray⟩) := hU.cell (hc 2 _ rfl) fun h => h
        have x3 : wr.cell? ⟨gg, off + k * 4 + 3, none⟩ = some l[k].v := hU.cell (hc 3 _ rfl) fun h => h
        clear hc
        generalize l[k] = y at *
        obtain ⟨kind, i, s, v, keep⟩ := y
        obtain ⟨-, hI, -⟩ := hok
        simp only at x2 x3 hI
        obtain ⟨_, va, vc, rfl, -⟩ := hI
        by_cases h5 : 5000 < s.length
        · have h5b : decide ((5000 : Int) < (s.length : Int)) = true := decide_eq_true (by omega)
          go_wp2_with fail
          go_ret
          exact ⟨false, ⟨rfl, fun h => by cases h⟩, hU⟩
        · have h5b : decide ((5000 : Int) < (s.length : Int)) = false := decide_eq_false (by omega)
          by_cases h6 : 100 < keep.length
          · have h6b : decide ((100 : Int) < (keep.length : Int)) = true := decide_eq_true (by omega)
            go_wp2_with fail
            go_ret
            exact ⟨false, ⟨rfl, fun h => by cases h⟩, hU⟩
          · have h6b : decide ((100 : Int) < (keep.length : Int)) = false := decide_eq_false (by omega)
            go_wp2_with fail
            go_roundw
            case rel => exact ⟨k + 1, by go_num, by omega, hU⟩
            case measure => simp [intOf]; omega
      · have hltI : ¬ (k : Int) < (l.length : Int) := by omega
        go_wp2_with fail
        go_ret
        exact ⟨true, ⟨rfl, fun _ => hle.out⟩, hU⟩
/-- What a call makes of the pages, but Settle and Keep. -/
def Mv (st st' : List Nat) : Prop := st' = st ∨ (∃ i, i < st.length ∧ st.getD i 0 = 0 ∧ st' = st.set i 2) ∨ (∃ i, i < st.length ∧ st.getD i 0 = 2 ∧ st' = st.set i 0) ∨ (∃ i, i < st.length ∧ st.getD i 0 = 1 ∧ st' = st.set i 3) ∨ st' = turnL 2 3 st
theorem mv_write (st : List Nat) (b : List UInt8) : Mv st (wrV st b).2.2 ∧ (wrV st b).2.2.length = st.length := by
  unfold wrV
  split
  · exact ⟨.inl rfl, rfl⟩
  · cases h : frst st with
    | none => exact ⟨.inl rfl, rfl⟩
    | some i =>
      obtain ⟨h1, h2, -⟩ := frst_some h
      exact ⟨.inr (.inl ⟨i, h1, h2, rfl⟩), List.length_set ..⟩
theorem mv_rel (st : List Nat) (i : Int) : Mv st (relV st i).2 ∧ (relV st i).2.length = st.length := by
  unfold relV
  split
  · rename_i h
    have hi : i.toNat < st.length := by omega
    split
    · rename_i h2; exact ⟨.inr (.inr (.inl ⟨_, hi, h2, rfl⟩)), List.length_set ..⟩
    · split
      · rename_i h2; exact ⟨.inr (.inr (.inr (.inl ⟨_, hi, h2, rfl⟩))), List.length_set ..⟩
      · exact ⟨.inl rfl, rfl⟩
  · exact ⟨.inl rfl, rfl⟩
theorem rwD_P (fr : Nat) (st : List Nat) (b : List UInt8) (i : Int) (d : Dk) : (rwD fr st b i d).P.length ≤ d.P.length + 8 := by
  unfold rwD
  split
  · omega
  · split
    · exact over_P _ _ 8 0 d
    · omega
section
variable {w0 w w' : World} {P D : Nat} {F F' : Nat → Prop} {r g I fr : Nat} {st : List Nat} {d d' : Dk}
/-- What play leaves. -/
def Played (w0 w : World) (P D : Nat) (F : Nat → Prop) (r g I fr : Nat) (st : List Nat) (d : Dk) (kind : Int) : Ending → World → Prop := fun en w' =>
  en = .returned (.tuple #[]) ∧ ∃ st' d' F', Pg w0 w' P D F' r g I fr st' d' ∧ Kp w (own F P I r g) w' (own F' P I r g) ∧ d'.P.length ≤ d.P.length + 8 ∧ st'.length = st.length ∧ (kind ≠ 3 → kind ≠ 5 → Mv st st')
theorem Pg.crash (h : Pg w0 w P D F r g I fr st d) {l : List Int} (hL : Lv w0 D w' F' (d.crash l)) (hk : Kp w F w' F') : Pg w0 w' P D F' r g I fr st (d.crash l) ∧ Kp w (own F P I r g) w' (own F' P I r g) := by
  have hlv := liv_crash h.liv l
  have hK : (d.crash l).K.length = d.K.length := hlv.len
  exact ⟨⟨h.pb.disk hL hk, by rw [hK]; exact hlv, by rw [hK]; exact h.room, h.s4⟩, own_kp h.pb.hi hk (Upd.refl _ _) (Nat.le_refl _)⟩
set_option maxHeartbeats 4000000 in
theorem lPlay (h : Pg w0 w P D F r g I fr st d) (hP : d.P.length ≤ 990000) (kind i : Int) (s : List UInt8) (v : Value) (keep : List Int) (hs : s.length ≤ 140737488355328) (hI : Ints w v keep) (hv : 0 < keep.length → ∀ k, At v k → ¬ own F P I r g k) :
    Calls Try.prog 19 #[.pointer (some ⟨P, 0, none⟩), .pointer (some ⟨D, 0, none⟩), .agg #[.int .i64 kind, .int .i64 i, .string ⟨s.toArray⟩, v]] w (Played w0 w P D F r g I fr st d kind) := by
  obtain ⟨_, va, vc, rfl, -⟩ := id hI
  have hA := Upd.alloc Non w (.cells #[.int .i64 kind, .int .i64 i, .string ⟨s.toArray⟩, .slice va keep.length vc] 51)
  have hX := heap_alloc_new w (.cells #[.int .i64 kind, .int .i64 i, .string ⟨s.toArray⟩, .slice va keep.length vc] 51)
  have hh := Lib.hid (h.non hA)
  have hkA : Hid (Kp w (own F P I r g) _ (own F P I r g)) := Lib.hid (Kp.non hA)
  have hIA := Lib.hid (hI.non hA)
  have hlt := Lib.hid h.pb.own_lt
  obtain ⟨y0, y1, y2, y3⟩ := cells4 hX
  obtain ⟨c8, w8, hr8, hm8⟩ := run_tobytes (P := Try.prog) (w.alloc (.cells #[.int .i64 kind, .int .i64 i, .string ⟨s.toArray⟩, .slice va keep.length vc] 51)) 9 22 5 Try.underlying9 Try.underlying22 Try.underlying5 s (by unfold maxLen; omega)
  have hv8 := hm8.bytes
  rw [show (w.alloc (.cells #[.int .i64 kind, .int .i64 i, .string ⟨s.toArray⟩, .slice va keep.length vc] 51)).heap.size = w.heap.size + 1 by simp] at hv8
  replace hv8 := Lib.hid hv8
  have hu8 := Lib.hid hm8.upd
  have hkB := Lib.hid (hkA.out.trans (Kp.non hm8.upd))
  have hB := Lib.hid (hh.out.non hm8.upd)
  have hown : Hid (∀ k, At (.slice (some ⟨w.heap.size + 1, 0, none⟩) s.length c8) k → ¬ own F P I r g k) := Lib.hid (fun k hk hO => by
    have h1 := hlt.out k hO
    have h2 := at_of hk
    omega)
  replace hv := Lib.hid hv
  clear hX hA hm8 h hI hlt
  by_cases h1 : kind = 1
  · subst h1
    have cK := Lib.hid (gRewrite hB.out (by omega) i _ s hv8.out hown.out)
    go_enter Try.func19, Try.ntmps19
    go_wp2_with fail
    refine cK.out.mono ?_
    rintro en w3 ⟨rfl, F3, d3, h3, e3, k3⟩
    have hfin := Lib.hid (And.intro h3 (And.intro (hkB.out.trans k3) (show d3.P.length ≤ d.P.length + 8 by rw [e3]; exact rwD_P _ _ _ _ _)))
    clear h3 k3 e3 cK y0 y1 y2 y3 hr8
    go_wp2_with fail
    go_returns
    exact ⟨rfl, ⟨st, d3, F3, hfin.out.1, hfin.out.2.1, hfin.out.2.2, rfl, fun _ _ => .inl rfl⟩⟩
  have h1c : (kind == 1) = false := by simp [h1]
  by_cases h2 : kind = 2
  · subst h2
    have cK := Lib.hid (gRelease hh.out i)
    clear hr8
    go_enter Try.func19, Try.ntmps19
    go_wp2_with fail
    refine cK.out.mono ?_
    rintro en w3 ⟨rfl, F3, d3, h3, e3, k3⟩
    have hfin := Lib.hid (And.intro h3 (And.intro (hkA.out.trans k3) (show d3.P.length ≤ d.P.length + 8 by rw [e3]; omega)))
    clear h3 k3 e3 cK y0 y1 y2 y3
    go_wp2_with fail
    go_returns
    exact ⟨rfl, ⟨_, d3, F3, hfin.out.1, hfin.out.2.1, hfin.out.2.2, (mv_rel st i).2, fun _ _ => (mv_rel st i).1⟩⟩
  have h2c : (kind == 2) = false := by simp [h2]
  by_cases h3 : kind = 3
  · subst h3
    have cK := Lib.hid (gSettle hh.out)
    clear hr8
    go_enter Try.func19, Try.ntmps19
    go_wp2_with fail
    refine cK.out.mono ?_
    rintro en w3 ⟨rfl, F3, d3, h3, e3, k3⟩
    have hfin := Lib.hid (And.intro h3 (And.intro (hkA.out.trans k3) (show d3.P.length ≤ d.P.length + 8 by rw [e3]; omega)))
    clear h3 k3 e3 cK y0 y1 y2 y3
    go_wp2_with fail
    go_returns
    exact ⟨rfl, ⟨_, d3, F3, hfin.out.1, hfin.out.2.1, hfin.out.2.2, List.length_map .., fun h => absurd rfl h⟩⟩
  have h3c : (kind == 3) = false := by simp [h3]
  by_cases h4 : kind = 4
  · subst h4
    have cK := Lib.hid (gUndo hh.out)
    clear hr8
    go_enter Try.func19, Try.ntmps19
    go_wp2_with fail
    refine cK.out.mono ?_
    rintro en w3 ⟨rfl, F3, d3, h3, e3, k3⟩
    have hfin := Lib.hid (And.intro h3 (And.intro (hkA.out.trans k3) (show d3.P.length ≤ d.P.length + 8 by rw [e3]; omega)))
    clear h3 k3 e3 cK y0 y1 y2 y3
    go_wp2_with fail
    go_returns
    exact ⟨rfl, ⟨_, d3, F3, hfin.out.1, hfin.out.2.1, hfin.out.2.2, List.length_map .., fun _ _ => .inr (.inr (.inr (.inr rfl)))⟩⟩
  have h4c : (kind == 4) = false := by simp [h4]
  by_cases h5 : kind = 5
  · subst h5
    have cK := Lib.hid (gKeep hh.out _ keep hIA.out hv.out)
    clear hr8
    go_enter Try.func19, Try.ntmps19
    go_wp2_with fail
    refine cK.out.mono ?_
    rintro en w3 ⟨e, st3, rfl, hl3, F3, d3, h3, e3, k3⟩
    have hfin := Lib.hid (And.intro h3 (And.intro (hkA.out.trans k3) (show d3.P.length ≤ d.P.length + 8 by rw [e3]; omega)))
    replace hl3 := Lib.hid hl3
    clear h3 k3 e3 cK y0 y1 y2 y3
    go_wp2_with fail
    go_returns
    exact ⟨rfl, ⟨st3, d3, F3, hfin.out.1, hfin.out.2.1, hfin.out.2.2, hl3.out, fun _ h => absurd rfl h⟩⟩
  have h5c : (kind == 5) = false := by simp [h5]
  have cR := Lib.hid (gRead hh.out (by omega) i)
  by_cases h6 : kind = 6
  · subst h6
    clear hr8
    go_enter Try.func19, Try.ntmps19
    go_wp2_with fail
    refine cR.out.mono ?_
    rintro en w3 ⟨a3, c3, rfl, -, hu, -⟩
    have hfin := Lib.hid (And.intro (hh.out.non hu) (hkA.out.trans (Kp.non hu)))
    clear hu cR y0 y1 y2 y3
    go_wp2_with fail
    go_returns
    exact ⟨rfl, ⟨st, d, F, hfin.out.1, hfin.out.2, Nat.le_add_right _ _, rfl, fun _ _ => .inl rfl⟩⟩
  have h6c : (kind == 6) = false := by simp [h6]
  by_cases h7 : kind = 7
  · subst h7
    clear hr8
    go_enter Try.func19, Try.ntmps19
    go_wp2_with fail
    refine cR.out.mono ?_
    rintro en w3 ⟨a3, c3, rfl, -, hu, -⟩
    have hfin := Lib.hid (And.intro (hh.out.non hu) (hkA.out.trans (Kp.non hu)))
    clear hu cR y0 y1 y2 y3
    go_wp2_with fail
    go_returns
    exact ⟨rfl, ⟨st, d, F, hfin.out.1, hfin.out.2, Nat.le_add_right _ _, rfl, fun _ _ => .inl rfl⟩⟩
  have h7c : (kind == 7) = false := by simp [h7]
  clear cR
  by_cases h8 : kind = 8
  · subst h8
    have cK := Lib.hid (lvCrash hh.out.pb.lv (by omega) _ keep hIA.out (fun h0 k hk hF => hv.out h0 k hk (.inl hF)))
    clear hr8
    go_enter Try.func19, Try.ntmps19
    go_wp2_with fail
    refine cK.out.mono ?_
    rintro en w3 ⟨rfl, F3, hL3, k3⟩
    have hfin := Lib.hid (hh.out.crash hL3 k3)
    clear hL3 k3 cK y0 y1 y2 y3
    go_wp2_with fail
    go_returns
    exact ⟨rfl, ⟨st, _, F3, hfin.out.1, hkA.out.trans hfin.out.2, Nat.zero_le _, rfl, fun _ _ => .inl rfl⟩⟩
  have h8c : (kind == 8) = false := by simp [h8]
  have cK := Lib.hid (gWrite hB.out (by omega) _ s hv8.out hown.out)
  go_enter Try.func19, Try.ntmps19
  go_wp2_with fail
  refine cK.out.mono ?_
  rintro en w3 ⟨rfl, F3, d3, h3, e3, k3⟩
  have hfin := Lib.hid (And.intro h3 (And.intro (hkB.out.trans k3) (show d3.P.length ≤ d.P.length + 8 by rw [e3]; exact wrD_P _ _ _ _)))
  clear h3 k3 e3 cK y0 y1 y2 y3 hr8
  go_wp2_with fail
  go_returns
  exact ⟨rfl, ⟨_, d3, F3, hfin.out.1, hfin.out.2.1, hfin.out.2.2, (mv_write st s).2, fun _ _ => (mv_write st s).1⟩⟩
end
end Go.Proofs.Ytfjcjppfihafgaa
