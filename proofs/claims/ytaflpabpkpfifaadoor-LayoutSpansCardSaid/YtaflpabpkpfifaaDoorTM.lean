/- The walk over tuple.Decode. -/
import Derived.Test.YtaflpabpkpfifaaDoorTL
import Derived.Test.YtaflpabpkpfifaaDoorLibD
import Derived.Test.YtaflpabpkpfifaaDoorTF
namespace Go.Proofs.YtaflpabpkpfifaaDoor
open Go.RowKit Go.Amb
set_option linter.unusedVariables false
attribute [local go_sem ↓] Go.wp_at_zero Go.wp_at_succ
attribute [local go_sem] Exit.jumps_ret Exit.jumps_goto Exit.jumps_normal Exit.jumps_exit

theorem pcs_appendM (a b : List Part) : pcs (a ++ b) = pcs a ++ pcs b := by simp [pcs]
theorem pcs_oneM (l : List Part) : ∀ u ∈ pcs l, u.oneCell' = true := by
  intro u hu
  obtain ⟨p, _, hp⟩ := List.mem_flatMap.1 hu
  simp [pc] at hp
  rcases hp with rfl | rfl | rfl <;> rfl
theorem own_partsM {w : World} {base : Nat} {v : Value} {l l' : List Part} {N : Nat} (h : w.ownsRow base 81 3 v N (pcs l ++ pcs l')) (hN : N = l.length + l'.length) : w.ownsRow base 81 3 v (l ++ l').length (pcs (l ++ l')) := by
  rw [pcs_appendM, List.length_append, ← hN]; exact h

theorem info_partM : (Tryd.prog.info? 81).map (fun i => (i.zero, i.size, i.bytes)) = some (some (.agg #[.int .i64 0, .int .i64 0, .string ⟨#[]⟩]), 3, 32) := by kernel_rfl

theorem textR_shift : ∀ (n : Nat) (r t : List UInt8) (i d : Nat), r.length ≤ n → textR t r (i + d) = (textR t r i).map fun x => (x.1, x.2 + d) := by
  intro n
  induction n with
  | zero =>
    intro r t i d hr
    have : r = [] := List.eq_nil_of_length_eq_zero (by omega)
    subst this
    rw [textR_nil, textR_nil]; rfl
  | succ n ih =>
    intro r t i d hr
    cases r with
    | nil => rw [textR_nil, textR_nil]; rfl
    | cons b r =>
      by_cases hb : b = 0
      · subst hb
        cases r with
        | nil => rw [textR_0, textR_0]; rfl
        | cons c r =>
          by_cases h1 : c = 1
          · subst h1
            rw [textR_01, textR_01]
            show some (t, i + d + 2) = some (t, i + 2 + d)
            rw [Nat.add_right_comm]
          · by_cases h2 : c = 255
            · subst h2
              rw [textR_0f, textR_0f, Nat.add_right_comm i d 2]
              exact ih r _ (i + 2) d (by simp at hr; omega)
            · rw [textR_0x h1 h2, textR_0x h1 h2]; rfl
      · rw [textR_ne hb, textR_ne hb, Nat.add_right_comm i d 1]
        exact ih r _ (i + 1) d (by simpa using hr)
theorem drop_ne {s : List UInt8} {k : Nat} (h : k < s.length) : s.drop k ≠ [] := fun e => by have := congrArg List.length e; simp at this; omega
/-- What is left to do within a text. -/
def contT (s : List UInt8) (k : Nat) (xs : List Part) (t : List UInt8) : Option (List Part) :=
  match textR t (s.drop k) k with
  | none => none
  | some (t', j) => (decL (s.drop j)).map fun m => xs ++ ⟨1, 0, t'⟩ :: m
theorem contT_end (s : List UInt8) (xs : List Part) (t : List UInt8) : contT s s.length xs t = none := by
  unfold contT; rw [List.drop_length, textR_nil]
theorem contT_ne {s : List UInt8} {k : Nat} (h : k < s.length) (hb : s[k] ≠ 0) (xs : List Part) (t : List UInt8) : contT s k xs t = contT s (k + 1) xs (t ++ [s[k]]) := by
  unfold contT; rw [List.drop_eq_getElem_cons h, textR_ne hb]
theorem contT_0 {s : List UInt8} {k : Nat} (h : k + 1 = s.length) (hb : s[k]'(by omega) = 0) (xs : List Part) (t : List UInt8) : contT s k xs t = none := by
  unfold contT; rw [List.drop_eq_getElem_cons (by omega), hb, h, List.drop_length, textR_0]
theorem contT_f {s : List UInt8} {k : Nat} (h : k + 1 < s.length) (hb : s[k]'(by omega) = 0) (hc : s[k + 1] = 255) (xs : List Part) (t : List UInt8) : contT s k xs t = contT s (k + 2) xs (t ++ [0]) := by
  unfold contT; rw [List.drop_eq_getElem_cons (by omega), List.drop_eq_getElem_cons h, hb, hc, textR_0f]
theorem contT_1 {s : List UInt8} {k : Nat} (h : k + 1 < s.length) (hb : s[k]'(by omega) = 0) (hc : s[k + 1] = 1) (xs : List Part) (t : List UInt8) : contT s k xs t = (decL (s.drop (k + 2))).map fun m => (xs ++ [⟨1, 0, t⟩]) ++ m := by
  unfold contT; rw [List.drop_eq_getElem_cons (by omega), List.drop_eq_getElem_cons h, hb, hc, textR_01]
  simp
theorem contT_x {s : List UInt8} {k : Nat} (h : k + 1 < s.length) (hb : s[k]'(by omega) = 0) (h1 : s[k + 1] ≠ 1) (h2 : s[k + 1] ≠ 255) (xs : List Part) (t : List UInt8) : contT s k xs t = none := by
  unfold contT; rw [List.drop_eq_getElem_cons (by omega), List.drop_eq_getElem_cons h, hb, textR_0x h1 h2]
def contP (s : List UInt8) (k : Nat) (xs : List Part) : Option (List Part) := (decL (s.drop k)).map fun m => xs ++ m
theorem contP_end (s : List UInt8) (xs : List Part) : contP s s.length xs = some xs := by
  unfold contP; rw [List.drop_length, decL_nil]; simp
theorem contP_text {s : List UInt8} {k : Nat} (h : k < s.length) (hb : s[k] = 2) (xs : List Part) : contP s k xs = contT s (k + 1) xs [] := by
  unfold contP contT
  rw [decL_step (drop_ne h), List.drop_eq_getElem_cons h, hb, firstR_cons, if_neg (by decide), if_neg (by decide), if_pos rfl]
  have := textR_shift _ (s.drop (k + 1)) [] 1 k (Nat.le_refl _)
  rw [Nat.add_comm 1 k] at this
  rw [this]
  cases hx : textR [] (s.drop (k + 1)) 1 with
  | none => rfl
  | some x =>
    obtain ⟨t, j⟩ := x
    have hg := textR_gt _ _ _ _ _ (Nat.le_refl _) hx
    simp only [Option.map_some]
    rw [← hb, ← List.drop_eq_getElem_cons h, List.drop_drop, Nat.add_comm k j]
    simp
    rfl
theorem contP_num {s : List UInt8} {k : Nat} (h : k < s.length) (kind mask : UInt8) (hk : (kind = 3 ∧ mask = 0) ∨ (kind = 4 ∧ mask = 255)) (hb : s[k] = kind) (xs : List Part) :
    contP s k xs = if s.length - (k + 1) < 8 then none else contP s (k + 9) (xs ++ [⟨(kind.toNat : Int) - 1, rdN mask ((s.drop (k + 1)).take 8), []⟩]) := by
  unfold contP
  rw [decL_step (drop_ne h), List.drop_eq_getElem_cons h, hb, firstR_cons]
  have hd : (kind :: s.drop (k + 1)).drop 9 = s.drop (k + 9) := by rw [List.drop_succ_cons, List.drop_drop]
  rcases hk with ⟨rfl, rfl⟩ | ⟨rfl, rfl⟩
  · rw [if_pos rfl, List.length_drop]
    by_cases hl : s.length - (k + 1) < 8
    · rw [if_pos hl, if_pos hl]; rfl
    · rw [if_neg hl, if_neg hl]
      simp only [hd]
      simp
      rfl
  · rw [if_neg (by decide), if_pos rfl, List.length_drop]
    by_cases hl : s.length - (k + 1) < 8
    · rw [if_pos hl, if_pos hl]; rfl
    · rw [if_neg hl, if_neg hl]
      simp only [hd]
      simp
      rfl
theorem contP_bad {s : List UInt8} {k : Nat} (h : k < s.length) (h2 : s[k] ≠ 2) (h3 : s[k] ≠ 3) (h4 : s[k] ≠ 4) (xs : List Part) : contP s k xs = none := by
  unfold contP
  rw [decL_step (drop_ne h), List.drop_eq_getElem_cons h, firstR_cons, if_neg h3, if_neg h4, if_neg h2]
  rfl

theorem byte_is {s : List UInt8} {k : Nat} (h : k < s.length) (hz : k < ByteArray.size ⟨s.toArray⟩) (c : UInt8) (n : Int) (hn : n = c.toNat) (b : Bool) (hb : b = decide (s[k] = c)) : ((((⟨s.toArray⟩ : ByteArray)[k]'hz).toNat : Int) == n) = b := by
  subst hn
  subst hb
  show ((s[k].toNat : Int) == (c.toNat : Int)) = _
  by_cases e : s[k] = c
  · rw [e]; simp
  · have : s[k].toNat ≠ c.toNat := fun h => e (UInt8.toNat_inj.1 h)
    have h2 : ((s[k].toNat : Int) == (c.toNat : Int)) = false := by simp only [beq_eq_false_iff_ne, ne_eq]; omega
    rw [h2]; simp [e]
theorem size_lt {s : List UInt8} {k : Nat} (h : k < s.length) : k < ByteArray.size ⟨s.toArray⟩ := by simpa [ByteArray.size] using h

/-- What Decode tells. -/
def decR (s : List UInt8) : List Part × Int := if 128 < s.length then ([], 5) else match decL s with | none => ([], 4) | some m => (m, 0)
def Decd (m : List Part) (x : Int) (w : World) (e : Ending) (w' : World) : Prop := ∃ v, e = .returned (.tuple #[v, .int .i64 x]) ∧ Parts w' v m ∧ Upd Non w w' ∧ ∀ k, At v k → w.heap.size ≤ k ∧ k < w'.heap.size

abbrev OutP (w : World) (wr : World) (out : Value) (xs : List Part) : Prop := wr.ownsRow w.heap.size 81 3 out xs.length (pcs xs)
/-- The frame: what is named, and whatever else. -/
def F99 (u : Nat → Value) (sv out tv kv : Value) : Act := { tmps := #[sv, u 1, u 2, u 3, out, tv, kv, u 7, u 8, u 9, u 10, u 11, u 12, u 13, u 14, u 15, u 16, u 17, u 18, u 19, u 20, u 21, u 22, u 23, u 24, u 25, u 26, u 27, u 28, u 29, u 30, u 31, u 32, u 33, u 34, u 35, u 36, u 37, u 38, u 39, u 40, u 41, u 42, u 43, u 44, u 45, u 46, u 47, u 48, u 49, u 50, u 51, u 52, u 53, u 54, u 55, u 56, u 57, u 58, u 59, u 60, u 61, u 62, u 63, u 64, u 65, u 66, u 67, u 68, u 69, u 70, u 71, u 72, u 73, u 74, u 75, u 76, u 77, u 78, u 79, u 80, u 81, u 82, u 83, u 84, u 85, u 86, u 87, u 88, u 89, u 90, u 91, u 92, u 93, u 94, u 95, u 96, u 97, u 98], defers := [] }
theorem F99_of (u0 u1 u2 u3 u4 u5 u6 u7 u8 u9 u10 u11 u12 u13 u14 u15 u16 u17 u18 u19 u20 u21 u22 u23 u24 u25 u26 u27 u28 u29 u30 u31 u32 u33 u34 u35 u36 u37 u38 u39 u40 u41 u42 u43 u44 u45 u46 u47 u48 u49 u50 u51 u52 u53 u54 u55 u56 u57 u58 u59 u60 u61 u62 u63 u64 u65 u66 u67 u68 u69 u70 u71 u72 u73 u74 u75 u76 u77 u78 u79 u80 u81 u82 u83 u84 u85 u86 u87 u88 u89 u90 u91 u92 u93 u94 u95 u96 u97 u98 : Value) : ({ tmps := #[u0, u1, u2, u3, u4, u5, u6, u7, u8, u9, u10, u11, u12, u13, u14, u15, u16, u17, u18, u19, u20, u21, u22, u23, u24, u25, u26, u27, u28, u29, u30, u31, u32, u33, u34, u35, u36, u37, u38, u39, u40, u41, u42, u43, u44, u45, u46, u47, u48, u49, u50, u51, u52, u53, u54, u55, u56, u57, u58, u59, u60, u61, u62, u63, u64, u65, u66, u67, u68, u69, u70, u71, u72, u73, u74, u75, u76, u77, u78, u79, u80, u81, u82, u83, u84, u85, u86, u87, u88, u89, u90, u91, u92, u93, u94, u95, u96, u97, u98], defers := [] } : Act) = F99 (fun n => (#[u0, u1, u2, u3, u4, u5, u6, u7, u8, u9, u10, u11, u12, u13, u14, u15, u16, u17, u18, u19, u20, u21, u22, u23, u24, u25, u26, u27, u28, u29, u30, u31, u32, u33, u34, u35, u36, u37, u38, u39, u40, u41, u42, u43, u44, u45, u46, u47, u48, u49, u50, u51, u52, u53, u54, u55, u56, u57, u58, u59, u60, u61, u62, u63, u64, u65, u66, u67, u68, u69, u70, u71, u72, u73, u74, u75, u76, u77, u78, u79, u80, u81, u82, u83, u84, u85, u86, u87, u88, u89, u90, u91, u92, u93, u94, u95, u96, u97, u98] : Array Value).getD n undef) u0 u4 u5 u6 := rfl
def JP (s : List UInt8) (w : World) (a : Act) (wr : World) : Prop := ∃ (u : Nat → Value) (xs : List Part) (out tv kv : Value) (k : Nat), a = F99 u (.string ⟨s.toArray⟩) out tv kv ∧ kv = .int .i64 k ∧ k ≤ s.length ∧ xs.length ≤ k ∧ OutP w wr out xs ∧ Upd Non w wr ∧ contP s k xs = decL s
def JT (s : List UInt8) (w : World) (a : Act) (wr : World) : Prop := ∃ (u : Nat → Value) (xs : List Part) (t' : List UInt8) (out tv kv : Value) (k : Nat), a = F99 u (.string ⟨s.toArray⟩) out tv kv ∧ kv = .int .i64 k ∧ k ≤ s.length ∧ xs.length ≤ k ∧ t'.length ≤ k ∧ OutP w wr out xs ∧ Own wr w.heap.size 5 tv t' ∧ Upd Non w wr ∧ contT s k xs t' = decL s
def JN (s : List UInt8) (w : World) (a : Act) (wr : World) : Prop := ∃ (u : Nat → Value) (xs : List Part) (out tv kv : Value) (k : Nat), a = F99 u (.string ⟨s.toArray⟩) out tv kv ∧ kv = .int .i64 ((k : Int) + 1) ∧ (∃ h : k < s.length, s[k] = 3 ∨ s[k] = 4) ∧ xs.length ≤ k ∧ OutP w wr out xs ∧ Upd Non w wr ∧ contP s k xs = decL s
def JB (s : List UInt8) (w : World) (a : Act) (wr : World) : Prop := ∃ (u : Nat → Value) (out tv kv : Value), a = F99 u (.string ⟨s.toArray⟩) out tv kv ∧ Upd Non w wr ∧ decL s = none
def JJ (s : List UInt8) (w : World) (l : Nat) (a : Act) (wr : World) : Prop := (l = 0 ∧ JP s w a wr) ∨ (l = 1 ∧ JT s w a wr) ∨ (l = 2 ∧ JN s w a wr) ∨ (l = 3 ∧ JB s w a wr)
def mu (s : List UInt8) (l : Nat) (a : Act) (_ : World) : Nat := 3 * (s.length - (intOf (a.tmps.getD 6 undef)).toNat) + if l = 0 then 2 else if l = 3 then 0 else 1

set_option maxRecDepth 100000 in
set_option maxHeartbeats 4000000 in
theorem tDecode_in (s : List UInt8) (w : World) (hs : s.length ≤ 128) : Calls Tryd.prog 40 #[.string ⟨s.toArray⟩] w (Decd (decR s).1 (decR s).2 w) := by
  have hi := Lib.hid (@info_u8)
  have hi2 := Lib.hid (@info_partM)
  have hs' : ¬ (128 : Int) < s.length := by omega
  have hres : Hid (decR s = match decL s with | none => ([], 4) | some m => (m, 0)) := by
    show decR s = _
    unfold decR; rw [if_neg (by omega)]
  go_enter Tryd.func40, Tryd.ntmps40
  go_wp2_with fail
  refine wp_scopes' (JJ s w) (mu s) ?_ ?_
  · intro l a wr h
    rcases h with ⟨rfl, u, xs, out, tv, kv, k, rfl, rfl, hk, hxk, ho, hu, hc⟩ | ⟨rfl, u, xs, t', out, tv, kv, k, rfl, rfl, hk, hxk, htk, ho, hot, hu, hc⟩ | ⟨rfl, u, xs, out, tv, kv, k, rfl, rfl, ⟨hk, h34⟩, hxk, ho, hu, hc⟩ | ⟨rfl, u, out, tv, kv, rfl, hu, hc⟩
    · refine ⟨_, rfl, ?_⟩
      simp only [F99]
      by_cases hkl : k = s.length
      · subst hkl
        rw [contP_end] at hc
        have hr2 : Hid (decR s = (xs, 0)) := by have := hres.out; rw [← hc] at this; exact this
        replace hc := Lib.hid hc
        go_wp2_with fail
        go_ret2
        exact ⟨out, by rw [hr2.out]; rfl, by rw [hr2.out]; exact has_of_owns ho, hu, fun k hk => ⟨own_ge ho hk, own_lt ho hk⟩⟩
      · have hlt : k < s.length := by omega
        have he : ((k : Int) == (s.length : Int)) = false := by simp only [beq_eq_false_iff_ne, ne_eq]; omega
        have hsz := size_lt hlt
        by_cases h2 : s[k] = 2
        · have b2 := byte_is hlt hsz 2 2 rfl true (by simp [h2])
          have hc2 := Lib.hid (contP_text hlt h2 xs)
          replace h2 := Lib.hid h2
          replace hc := Lib.hid hc
          go_wp2_with fail
          go_step3
          refine ⟨.inr (.inl ⟨rfl, _, xs, [], _, _, _, k + 1, F99_of _ _ _ _ _ _ _ _ _ _ _ _ _ _ _ _ _ _ _ _ _ _ _ _ _ _ _ _ _ _ _ _ _ _ _ _ _ _ _ _ _ _ _ _ _ _ _ _ _ _ _ _ _ _ _ _ _ _ _ _ _ _ _ _ _ _ _ _ _ _ _ _ _ _ _ _ _ _ _ _ _ _ _ _ _ _ _ _ _ _ _ _ _ _ _ _ _ _ _, by go_num, by omega, by omega, by simp, ho, World.ownsRow_nil _ _ _ _, hu, by rw [← hc2.out]; exact hc.out⟩), ?_⟩
          simp [mu, F99, intOf]; omega
        · have b2 := byte_is hlt hsz 2 2 rfl false (by simp [h2])
          by_cases h3 : s[k] = 3 ∨ s[k] = 4
          · have h34 := Lib.hid h3
            rcases h3 with h3 | h3
            · have b3 := byte_is hlt hsz 3 3 rfl true (by simp [h3])
              replace h3 := Lib.hid h3
              replace h2 := Lib.hid h2
              replace hc := Lib.hid hc
              go_wp2_with fail
              go_step3
              refine ⟨.inr (.inr (.inl ⟨rfl, _, xs, _, _, _, k, F99_of _ _ _ _ _ _ _ _ _ _ _ _ _ _ _ _ _ _ _ _ _ _ _ _ _ _ _ _ _ _ _ _ _ _ _ _ _ _ _ _ _ _ _ _ _ _ _ _ _ _ _ _ _ _ _ _ _ _ _ _ _ _ _ _ _ _ _ _ _ _ _ _ _ _ _ _ _ _ _ _ _ _ _ _ _ _ _ _ _ _ _ _ _ _ _ _ _ _ _, rfl, ⟨hlt, h34.out⟩, hxk, ho, hu, hc.out⟩)), ?_⟩
              simp [mu, F99, intOf]; omega
            · have b3 := byte_is hlt hsz 3 3 rfl false (by simp [h3])
              have b4 := byte_is hlt hsz 4 4 rfl true (by simp [h3])
              replace h3 := Lib.hid h3
              replace h2 := Lib.hid h2
              replace hc := Lib.hid hc
              go_wp2_with fail
              go_step3
              refine ⟨.inr (.inr (.inl ⟨rfl, _, xs, _, _, _, k, F99_of _ _ _ _ _ _ _ _ _ _ _ _ _ _ _ _ _ _ _ _ _ _ _ _ _ _ _ _ _ _ _ _ _ _ _ _ _ _ _ _ _ _ _ _ _ _ _ _ _ _ _ _ _ _ _ _ _ _ _ _ _ _ _ _ _ _ _ _ _ _ _ _ _ _ _ _ _ _ _ _ _ _ _ _ _ _ _ _ _ _ _ _ _ _ _ _ _ _ _, rfl, ⟨hlt, h34.out⟩, hxk, ho, hu, hc.out⟩)), ?_⟩
              simp [mu, F99, intOf]; omega
          · have h3a : s[k] ≠ 3 := fun h => h3 (.inl h)
            have h4a : s[k] ≠ 4 := fun h => h3 (.inr h)
            have b3 := byte_is hlt hsz 3 3 rfl false (by simp [h3a])
            have b4 := byte_is hlt hsz 4 4 rfl false (by simp [h4a])
            have hn := Lib.hid (contP_bad hlt h2 h3a h4a xs)
            replace hc := Lib.hid hc
            replace h2 := Lib.hid h2
            replace h3a := Lib.hid h3a
            replace h4a := Lib.hid h4a
            clear h3
            go_wp2_with fail
            go_step3
            refine ⟨.inr (.inr (.inr ⟨rfl, _, _, _, _, F99_of _ _ _ _ _ _ _ _ _ _ _ _ _ _ _ _ _ _ _ _ _ _ _ _ _ _ _ _ _ _ _ _ _ _ _ _ _ _ _ _ _ _ _ _ _ _ _ _ _ _ _ _ _ _ _ _ _ _ _ _ _ _ _ _ _ _ _ _ _ _ _ _ _ _ _ _ _ _ _ _ _ _ _ _ _ _ _ _ _ _ _ _ _ _ _ _ _ _ _, hu, by rw [← hc.out]; exact hn.out⟩)), ?_⟩
            simp [mu, F99, intOf]; omega
    · refine ⟨_, rfl, ?_⟩
      simp only [F99]
      replace hc := Lib.hid hc
      by_cases hkl : k = s.length
      · subst hkl
        have hn := Lib.hid (contT_end s xs t')
        go_wp2_with fail
        go_step3
        refine ⟨.inr (.inr (.inr ⟨rfl, _, _, _, _, F99_of _ _ _ _ _ _ _ _ _ _ _ _ _ _ _ _ _ _ _ _ _ _ _ _ _ _ _ _ _ _ _ _ _ _ _ _ _ _ _ _ _ _ _ _ _ _ _ _ _ _ _ _ _ _ _ _ _ _ _ _ _ _ _ _ _ _ _ _ _ _ _ _ _ _ _ _ _ _ _ _ _ _ _ _ _ _ _ _ _ _ _ _ _ _ _ _ _ _ _, hu, by rw [← hc.out]; exact hn.out⟩)), ?_⟩
        simp [mu, F99, intOf]
      · have hlt : k < s.length := by omega
        have he : ((k : Int) == (s.length : Int)) = false := by simp only [beq_eq_false_iff_ne, ne_eq]; omega
        have hsz := size_lt hlt
        have hsu := hu.size
        by_cases h0 : s[k] = 0
        · have b0 := byte_is hlt hsz 0 0 rfl true (by simp [h0])
          by_cases hk1 : k + 1 = s.length
          · have hn := Lib.hid (contT_0 hk1 h0 xs t')
            have he2 : ((k : Int) + 1 == (s.length : Int)) = true := by simp only [beq_iff_eq]; omega
            replace h0 := Lib.hid h0
            replace hk1 := Lib.hid hk1
            go_wp2_with fail
            go_step3
            refine ⟨.inr (.inr (.inr ⟨rfl, _, _, _, _, F99_of _ _ _ _ _ _ _ _ _ _ _ _ _ _ _ _ _ _ _ _ _ _ _ _ _ _ _ _ _ _ _ _ _ _ _ _ _ _ _ _ _ _ _ _ _ _ _ _ _ _ _ _ _ _ _ _ _ _ _ _ _ _ _ _ _ _ _ _ _ _ _ _ _ _ _ _ _ _ _ _ _ _ _ _ _ _ _ _ _ _ _ _ _ _ _ _ _ _ _, hu, by rw [← hc.out]; exact hn.out⟩)), ?_⟩
            simp [mu, F99, intOf]; omega
          · have hlt1 : k + 1 < s.length := by omega
            have he2 : ((k : Int) + 1 == (s.length : Int)) = false := by simp only [beq_eq_false_iff_ne, ne_eq]; omega
            have hsz1 := size_lt hlt1
            clear hk1
            by_cases h1 : s[k + 1] = 1
            · have c1 := byte_is hlt1 hsz1 1 1 rfl true (by simp [h1])
              have c255 := byte_is hlt1 hsz1 255 255 rfl false (by rw [h1]; rfl)
              have hn := Lib.hid (contT_1 hlt1 h0 h1 xs t')
              have hstr := run_str (P := Tryd.prog) _ 86 9 5 Tryd.underlying86 Tryd.underlying5 Tryd.underlying9 _ _ hot.bytes
              replace h0 := Lib.hid h0
              replace h1 := Lib.hid h1
              go_wp2_with (at_builtin; go_must (refine wpList_app1n rfl _ _ 74 rfl w.heap.size 81 (.agg #[.int .i64 0, .int .i64 0, .string ⟨#[]⟩]) 3 32 Tryd.underlying74 hi2.out rfl out _ _ rfl ho [.int .i64 1, .int .i64 0, .string ⟨t'.toArray⟩] wr.heap.size rfl rfl rfl (pcs_oneM [⟨1, 0, t'⟩]) (by unfold maxLen; omega) (by omega) hsu ?_))
              intro v3 w3 ho3 hu3 hf3
              have ho3 : OutP w w3 v3 (xs ++ [⟨1, 0, t'⟩]) := own_partsM (l' := [⟨1, 0, t'⟩]) ho3 rfl
              have hU3 := hu.trans hu3 fun j hj h => absurd (own_ge ho h) (by omega)
              clear hstr
              go_wp2_with fail
              go_step3
              refine ⟨.inl ⟨rfl, _, xs ++ [⟨1, 0, t'⟩], _, _, _, k + 2, F99_of _ _ _ _ _ _ _ _ _ _ _ _ _ _ _ _ _ _ _ _ _ _ _ _ _ _ _ _ _ _ _ _ _ _ _ _ _ _ _ _ _ _ _ _ _ _ _ _ _ _ _ _ _ _ _ _ _ _ _ _ _ _ _ _ _ _ _ _ _ _ _ _ _ _ _ _ _ _ _ _ _ _ _ _ _ _ _ _ _ _ _ _ _ _ _ _ _ _ _, by congr 1 <;> omega, by omega, by simp; omega, ho3, hU3, by unfold contP; rw [← hn.out]; exact hc.out⟩, ?_⟩
              simp [mu, F99, intOf]; omega
            · have c1 := byte_is hlt1 hsz1 1 1 rfl false (by simp [h1])
              by_cases h255 : s[k + 1] = 255
              · have c255 := byte_is hlt1 hsz1 255 255 rfl true (by simp [h255])
                have hn := Lib.hid (contT_f hlt1 h0 h255 xs t')
                replace h0 := Lib.hid h0
                replace h1 := Lib.hid h1
                replace h255 := Lib.hid h255
                go_wp2_with (at_builtin; go_must (refine wpList_app1n rfl _ _ 86 rfl w.heap.size 5 (.int .u8 0) 1 1 Tryd.underlying86 hi.out rfl tv _ _ rfl hot [.int .u8 0] wr.heap.size rfl rfl rfl (one_cell _ _) (by unfold maxLen; omega) (by omega) hsu ?_))
                intro v3 w3 ho3 hu3 hf3
                have ho3 : Own w3 w.heap.size 5 v3 (t' ++ [0]) := own_snoc ho3 rfl
                have hU3 := hu.trans hu3 fun j hj h => absurd (own_ge hot h) (by omega)
                have hout := hu3.owns ho (own_apart ho hot (by decide))
                go_wp2_with fail
                go_step3
                refine ⟨.inr (.inl ⟨rfl, _, xs, t' ++ [0], _, _, _, k + 2, F99_of _ _ _ _ _ _ _ _ _ _ _ _ _ _ _ _ _ _ _ _ _ _ _ _ _ _ _ _ _ _ _ _ _ _ _ _ _ _ _ _ _ _ _ _ _ _ _ _ _ _ _ _ _ _ _ _ _ _ _ _ _ _ _ _ _ _ _ _ _ _ _ _ _ _ _ _ _ _ _ _ _ _ _ _ _ _ _ _ _ _ _ _ _ _ _ _ _ _ _, by congr 1 <;> omega, by omega, by omega, by simp; omega, hout, ho3, hU3, by rw [← hn.out]; exact hc.out⟩), ?_⟩
                simp [mu, F99, intOf]; omega
              · have c255 := byte_is hlt1 hsz1 255 255 rfl false (by simp [h255])
                have hn := Lib.hid (contT_x hlt1 h0 h1 h255 xs t')
                replace h0 := Lib.hid h0
                replace h1 := Lib.hid h1
                replace h255 := Lib.hid h255
                have hr2 : Hid (decR s = ([], 4)) := by have := hres.out; rw [← hc.out, hn.out] at this; exact this
                go_wp2_with fail
                go_step3
                go_wp2_with fail
                go_ret2
                exact ⟨.slice none 0 0, by rw [hr2.out]; rfl, by rw [hr2.out]; exact Has.nil _ _, hu, fun k hk => by cases hk⟩
        · have b0 := byte_is hlt hsz 0 0 rfl false (by simp [h0])
          have hn := Lib.hid (contT_ne hlt h0 xs t')
          replace h0 := Lib.hid h0
          go_wp2_with (at_builtin; go_must (refine wpList_app1n rfl _ _ 86 rfl w.heap.size 5 (.int .u8 0) 1 1 Tryd.underlying86 hi.out rfl tv _ _ rfl hot [.int .u8 _] wr.heap.size rfl rfl rfl (one_cell _ _) (by unfold maxLen; omega) (by omega) hsu ?_))
          intro v3 w3 ho3 hu3 hf3
          have ho3 : Own w3 w.heap.size 5 v3 (t' ++ [s[k]]) := own_snoc ho3 rfl
          have hU3 := hu.trans hu3 fun j hj h => absurd (own_ge hot h) (by omega)
          have hout := hu3.owns ho (own_apart ho hot (by decide))
          go_wp2_with fail
          go_step3
          refine ⟨.inr (.inl ⟨rfl, _, xs, t' ++ [s[k]], _, _, _, k + 1, F99_of _ _ _ _ _ _ _ _ _ _ _ _ _ _ _ _ _ _ _ _ _ _ _ _ _ _ _ _ _ _ _ _ _ _ _ _ _ _ _ _ _ _ _ _ _ _ _ _ _ _ _ _ _ _ _ _ _ _ _ _ _ _ _ _ _ _ _ _ _ _ _ _ _ _ _ _ _ _ _ _ _ _ _ _ _ _ _ _ _ _ _ _ _ _ _ _ _ _ _, by go_num, by omega, by omega, by simp; omega, hout, ho3, hU3, by rw [← hn.out]; exact hc.out⟩), ?_⟩
          simp [mu, F99, intOf]; omega
    · refine ⟨_, rfl, ?_⟩
      simp only [F99]
      replace hc := Lib.hid hc
      have hsz := size_lt hk
      have hsu := hu.size
      obtain ⟨kind, mask, hkm, hbk⟩ : ∃ kind mask : UInt8, ((kind = 3 ∧ mask = 0) ∨ (kind = 4 ∧ mask = 255)) ∧ s[k] = kind := by
        rcases h34 with h | h
        · exact ⟨3, 0, .inl ⟨rfl, rfl⟩, h⟩
        · exact ⟨4, 255, .inr ⟨rfl, rfl⟩, h⟩
      have hn := Lib.hid (contP_num hk kind mask hkm hbk xs)
      clear h34
      by_cases h8 : s.length - (k + 1) < 8
      · have h8' : (s.length : Int) - ((k : Int) + 1) < 8 := by omega
        have hnone : decL s = none := by rw [← hc.out, hn.out, if_pos h8]
        replace hnone := Lib.hid hnone
        replace hbk := Lib.hid hbk
        replace hkm := Lib.hid hkm
        clear h8
        go_wp2_with fail
        go_step3
        refine ⟨.inr (.inr (.inr ⟨rfl, _, _, _, _, F99_of _ _ _ _ _ _ _ _ _ _ _ _ _ _ _ _ _ _ _ _ _ _ _ _ _ _ _ _ _ _ _ _ _ _ _ _ _ _ _ _ _ _ _ _ _ _ _ _ _ _ _ _ _ _ _ _ _ _ _ _ _ _ _ _ _ _ _ _ _ _ _ _ _ _ _ _ _ _ _ _ _ _ _ _ _ _ _ _ _ _ _ _ _ _ _ _ _ _ _, hu, hnone.out⟩)), ?_⟩
        simp [mu, F99, intOf]
      · have h8' : ¬ (s.length : Int) - ((k : Int) + 1) < 8 := by omega
        have hlen8 : ((s.drop (k + 1)).take 8).length = 8 := by simp; omega
        have hsub : ∀ w, (Instr.slice 9 (.string ⟨s.toArray⟩) (some (.int .i64 ((k : Int) + 1))) (some (.int .i64 ((k : Int) + 1 + 8))) none).run Tryd.prog w = .ok (.string ⟨((s.drop (k + 1)).take 8).toArray⟩) w := by
          intro w
          have := run_sub (P := Tryd.prog) 9 Tryd.underlying9 s ((k : Int) + 1) ((k : Int) + 1 + 8) (k + 1) (k + 9) (by omega) (by omega) (by omega) (by omega) w
          rw [this, show k + 9 - (k + 1) = 8 by omega]
        have hcont : contP s (k + 9) (xs ++ [⟨(kind.toNat : Int) - 1, rdN mask ((s.drop (k + 1)).take 8), []⟩]) = decL s := by
          have := hn.out; rw [if_neg h8] at this; rw [← this]; exact hc.out
        have hrd := Lib.hid (fun w => tRead ((s.drop (k + 1)).take 8) mask w hlen8)
        generalize (s.drop (k + 1)).take 8 = bs at *
        clear h8 hn
        replace hlen8 := Lib.hid hlen8
        rcases hkm with ⟨rfl, rfl⟩ | ⟨rfl, rfl⟩
        · have b3 := byte_is hk hsz 3 3 rfl true (by simp [hbk])
          replace hbk := Lib.hid hbk
          go_wp2_with fail
          refine (hrd.out _).mono ?_
          rintro e w2 ⟨rfl, hu2⟩
          have ho2 := hu2.owns ho fun _ _ h => h
          have hU2 := hu.trans hu2 fun _ _ h => h
          have hz2 := hU2.size
          go_wp2_with (at_builtin; go_must (refine wpList_app1n rfl _ _ 74 rfl w.heap.size 81 (.agg #[.int .i64 0, .int .i64 0, .string ⟨#[]⟩]) 3 32 Tryd.underlying74 hi2.out rfl out _ _ rfl ho2 [.int .i64 2, .int .i64 (rdN 0 bs), .string ⟨#[]⟩] w2.heap.size rfl rfl rfl (pcs_oneM [⟨2, rdN 0 bs, []⟩]) (by unfold maxLen; omega) (by omega) hz2 ?_))
          intro v3 w3 ho3 hu3 hf3
          have ho3 : OutP w w3 v3 (xs ++ [⟨2, rdN 0 bs, []⟩]) := own_partsM (l' := [⟨2, rdN 0 bs, []⟩]) ho3 rfl
          have hU3 := hU2.trans hu3 fun j hj h => absurd (own_ge ho2 h) (by omega)
          replace hcont := Lib.hid hcont
          go_wp2_with fail
          go_step3
          refine ⟨.inl ⟨rfl, _, xs ++ [⟨2, rdN 0 bs, []⟩], _, _, _, k + 9, F99_of _ _ _ _ _ _ _ _ _ _ _ _ _ _ _ _ _ _ _ _ _ _ _ _ _ _ _ _ _ _ _ _ _ _ _ _ _ _ _ _ _ _ _ _ _ _ _ _ _ _ _ _ _ _ _ _ _ _ _ _ _ _ _ _ _ _ _ _ _ _ _ _ _ _ _ _ _ _ _ _ _ _ _ _ _ _ _ _ _ _ _ _ _ _ _ _ _ _ _, by congr 1 <;> omega, by omega, by simp; omega, ho3, hU3, hcont.out⟩, ?_⟩
          simp [mu, F99, intOf]; omega
        · have b3 := byte_is hk hsz 3 3 rfl false (by rw [hbk]; rfl)
          replace hbk := Lib.hid hbk
          go_wp2_with fail
          refine (hrd.out _).mono ?_
          rintro e w2 ⟨rfl, hu2⟩
          have ho2 := hu2.owns ho fun _ _ h => h
          have hU2 := hu.trans hu2 fun _ _ h => h
          have hz2 := hU2.size
          go_wp2_with (at_builtin; go_must (refine wpList_app1n rfl _ _ 74 rfl w.heap.size 81 (.agg #[.int .i64 0, .int .i64 0, .string ⟨#[]⟩]) 3 32 Tryd.underlying74 hi2.out rfl out _ _ rfl ho2 [.int .i64 3, .int .i64 (rdN 255 bs), .string ⟨#[]⟩] w2.heap.size rfl rfl rfl (pcs_oneM [⟨3, rdN 255 bs, []⟩]) (by unfold maxLen; omega) (by omega) hz2 ?_))
          intro v3 w3 ho3 hu3 hf3
          have ho3 : OutP w w3 v3 (xs ++ [⟨3, rdN 255 bs, []⟩]) := own_partsM (l' := [⟨3, rdN 255 bs, []⟩]) ho3 rfl
          have hU3 := hU2.trans hu3 fun j hj h => absurd (own_ge ho2 h) (by omega)
          replace hcont := Lib.hid hcont
          go_wp2_with fail
          go_step3
          refine ⟨.inl ⟨rfl, _, xs ++ [⟨3, rdN 255 bs, []⟩], _, _, _, k + 9, F99_of _ _ _ _ _ _ _ _ _ _ _ _ _ _ _ _ _ _ _ _ _ _ _ _ _ _ _ _ _ _ _ _ _ _ _ _ _ _ _ _ _ _ _ _ _ _ _ _ _ _ _ _ _ _ _ _ _ _ _ _ _ _ _ _ _ _ _ _ _ _ _ _ _ _ _ _ _ _ _ _ _ _ _ _ _ _ _ _ _ _ _ _ _ _ _ _ _ _ _, by congr 1 <;> omega, by omega, by simp; omega, ho3, hU3, hcont.out⟩, ?_⟩
          simp [mu, F99, intOf]; omega
    · refine ⟨_, rfl, ?_⟩
      simp only [F99]
      have hr2 : Hid (decR s = ([], 4)) := by have := hres.out; rw [hc] at this; exact this
      go_wp2_with fail
      go_ret2
      exact ⟨.slice none 0 0, by rw [hr2.out]; rfl, by rw [hr2.out]; exact Has.nil _ _, hu, fun k hk => by cases hk⟩
  · intro hp
    replace hp := Lib.hid hp
    go_wp2_with fail
    go_step3
    simp only [Exit.then]
    refine (by assumption : ∀ (a : Act) (w : World), Code.wp _ _ _ a w → _) _ _ ?_
    obtain ⟨r, hr, hw⟩ := hp.out 0 _ w (.inl ⟨rfl, _, [], _, _, _, 0, F99_of _ _ _ _ _ _ _ _ _ _ _ _ _ _ _ _ _ _ _ _ _ _ _ _ _ _ _ _ _ _ _ _ _ _ _ _ _ _ _ _ _ _ _ _ _ _ _ _ _ _ _ _ _ _ _ _ _ _ _ _ _ _ _ _ _ _ _ _ _ _ _ _ _ _ _ _ _ _ _ _ _ _ _ _ _ _ _ _ _ _ _ _ _ _ _ _ _ _ _, rfl, by omega, by simp, World.ownsRow_nil _ _ _ _, Upd.refl _ _, by unfold contP; simp⟩)
    obtain rfl : _ = r := by injection (show some (Code.seq Code.skip _) = some (Code.seq Code.skip r) from hr) with h; injection h
    exact hw

theorem tDecode (s : List UInt8) (w : World) : Calls Tryd.prog 40 #[.string ⟨s.toArray⟩] w (Decd (decR s).1 (decR s).2 w) := by
  by_cases hs : s.length ≤ 128
  · exact tDecode_in s w hs
  · have hs' : (128 : Int) < s.length := by omega
    have hr : decR s = ([], 5) := by unfold decR; rw [if_pos (by omega)]
    rw [hr]
    go_enter Tryd.func40, Tryd.ntmps40
    go_wp2_with fail
    refine wp_scopes' (fun _ _ _ => False) (fun _ _ _ => 0) (fun _ _ _ h => h.elim) ?_
    intro _
    go_wp2_with fail
    go_ret2
    exact ⟨.slice none 0 0, rfl, Has.nil _ _, Upd.refl _ _, fun k hk => by cases hk⟩
end Go.Proofs.YtaflpabpkpfifaaDoor
