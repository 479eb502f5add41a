/- The walk of FieldBack. -/
import Derived.Test.YtgemlapmjbgdkaaFPlainB
import Derived.Test.YtgemlapmjbgdkaaFL
namespace Go.Proofs.Ytgemlapmjbgdkaa
open Go.RowKit Go.Amb
set_option linter.unusedVariables false
attribute [local go_sem ↓] Go.wp_at_zero Go.wp_at_succ

/-- The fields of numbers, of the widths in turn. -/
def flds : Nat → List Int → List UInt8
  | _, [] => []
  | i, n :: r => fld n (wid (i % 4)) ++ flds (i + 1) r
theorem flds_app (l m : List Int) : ∀ i, flds i (l ++ m) = flds i l ++ flds (i + l.length) m := by
  induction l with
  | nil => intro i; rfl
  | cons n l ih =>
    intro i
    show fld n (wid (i % 4)) ++ flds (i + 1) (l ++ m) = _
    rw [ih (i + 1), ← List.append_assoc, List.length_cons, show i + 1 + l.length = i + (l.length + 1) by omega]
    rfl
theorem wid_le (i : Nat) : 1 ≤ wid (i % 4) ∧ wid (i % 4) ≤ 8 := by
  have h : i % 4 = 0 ∨ i % 4 = 1 ∨ i % 4 = 2 ∨ i % 4 = 3 := by omega
  rcases h with h | h | h | h <;> rw [h] <;> decide
theorem flds_le (l : List Int) : ∀ i, (flds i l).length ≤ 8 * l.length := by
  induction l with
  | nil => intro i; simp [flds]
  | cons n l ih =>
    intro i
    have := ih (i + 1)
    have := (wid_le i).2
    simp only [flds, List.length_append, fld_length, List.length_cons]
    omega
theorem flds_take (l : List Int) (k : Nat) (hk : k < l.length) : flds 0 (l.take (k + 1)) = flds 0 (l.take k) ++ fld l[k] (wid (k % 4)) := by
  rw [List.take_succ_eq_append_getElem hk, flds_app, List.length_take, Nat.min_eq_left (by omega), Nat.zero_add]
  simp [flds]
theorem flds_split (l : List Int) (k : Nat) (hk : k < l.length) : flds 0 l = flds 0 (l.take k) ++ fld l[k] (wid (k % 4)) ++ flds (k + 1) (l.drop (k + 1)) := by
  conv => lhs; rw [← List.take_append_drop (k + 1) l]
  rw [flds_app, flds_take l k hk, List.length_take, Nat.min_eq_left (by omega), Nat.zero_add]
/-- The lowest bits of a number, as so many. -/
def low (n : Int) (k : Nat) : Int := wrap64 (n % 256 ^ wid k)
theorem back_read (s : List UInt8) (l : List Int) (more : List UInt8) (k : Nat) (hk : k < l.length) :
    rdNum (txt s ++ flds 0 l ++ more) (txt s ++ flds 0 (l.take k)).length 0 (wid (k % 4)) = ((txt s ++ flds 0 (l.take (k + 1))).length, 0, low l[k] (k % 4)) := by
  have h := back_num (txt s ++ flds 0 (l.take k)) (flds (k + 1) (l.drop (k + 1)) ++ more) l[k] (wid (k % 4))
  rw [flds_split l k hk]
  have e : txt s ++ flds 0 (l.take k) ++ fld l[k] (wid (k % 4)) ++ (flds (k + 1) (l.drop (k + 1)) ++ more) = txt s ++ (flds 0 (l.take k) ++ fld l[k] (wid (k % 4)) ++ flds (k + 1) (l.drop (k + 1))) ++ more := by simp only [List.append_assoc]
  rw [e] at h
  have e2 : (txt s ++ flds 0 (l.take k) ++ fld l[k] (wid (k % 4))).length = (txt s ++ flds 0 (l.take k)).length + wid (k % 4) := by rw [List.length_append, fld_length]
  rw [h, flds_take l k hk, ← List.append_assoc, e2]
  rfl
/-- What the statement asks of number k. -/
theorem low_want (n : Int) (k : Nat) (hn : -9223372036854775808 ≤ n ∧ n ≤ 9223372036854775807) :
    (k = 0 → bits .and .i64 n 255 = low n k) ∧ (k = 1 → bits .and .i64 n 65535 = low n k) ∧ (k = 2 → bits .and .i64 n 4294967295 = low n k) ∧ (k = 3 → n = low n k) := by
  refine ⟨?_, ?_, ?_, ?_⟩
  · rintro rfl
    have e := and_mask n 8 (by decide)
    simp only [Int.reducePow, Int.reduceSub] at e
    rw [e]
    show _ = wrap64 (n % 256)
    rw [IntWalk.wrap64_in _ ⟨by omega, by omega⟩]
  · rintro rfl
    have e := and_mask n 16 (by decide)
    simp only [Int.reducePow, Int.reduceSub] at e
    rw [e]
    show _ = wrap64 (n % 65536)
    rw [IntWalk.wrap64_in _ ⟨by omega, by omega⟩]
  · rintro rfl
    have e := and_mask n 32 (by decide)
    simp only [Int.reducePow, Int.reduceSub] at e
    rw [e]
    show _ = wrap64 (n % 4294967296)
    rw [IntWalk.wrap64_in _ ⟨by omega, by omega⟩]
  · rintro rfl
    show n = wrap64 (n % 18446744073709551616)
    unfold wrap64
    omega

set_option maxHeartbeats 400000 in
theorem back_out (v1 v2 : Value) (n c : Nat) (a : Option Addr) (w : World) (h : 1000 < n) : Calls Try.prog 7 #[.slice a n c, v1, v2] w (Ret (.bool true) w) := by
  go_enter Try.func7, Try.ntmps7
  go_wp2_with fail
  refine (lives01 _).mono ?_
  rintro e w1 ⟨rfl, hu⟩
  go_wp2_with fail
  go_ret
  exact ⟨rfl, hu⟩

set_option maxRecDepth 100000 in
set_option maxHeartbeats 2000000 in
theorem back_in (l : List Int) (s more : List UInt8) (a : Option Addr) (c : Nat) (v2 : Value) (w : World) (hl : l.length ≤ 1000) (hs : s.length ≤ 1048576) (hm : more.length ≤ 1048576)
    (hL : Has w 1 (.slice a l.length c) l.length (l.map (Value.int .i64))) (hwf : ∀ n ∈ l, -9223372036854775808 ≤ n ∧ n ≤ 9223372036854775807) (hM : Bytes w v2 more) :
    Calls Try.prog 7 #[.slice a l.length c, .string ⟨s.toArray⟩, v2] w (Ret (.bool true) w) := by
  have hl' : (l.length : Int) ≤ 1000 := by omega
  have hi := Lib.hid (@info_u8)
  replace hL := Lib.hid hL
  replace hM := Lib.hid hM
  replace hwf := Lib.hid hwf
  go_enter Try.func7, Try.ntmps7
  go_wp2_with fail
  refine (PutText w.heap.size _ [] s w (World.ownsRow_nil _ _ _ _) (by simp; omega) (Nat.le_refl _)).mono ?_
  rintro e w1 ⟨v1, rfl, ho1, hu1, hn1⟩
  replace hu1 := hu1.toNon (fun k h => by cases h)
  replace ho1 : Own w1 w.heap.size 5 v1 (txt s) := ho1
  clear hn1
  go_wp2_with fail
  go_loopw [7, 8] (fun b i wr => ∃ k : Nat, k ≤ l.length ∧ i = .int .i64 k ∧ Own wr w.heap.size 5 b (txt s ++ flds 0 (l.take k)) ∧ Upd Non w wr) (fun _ i _ => l.length - (intOf i).toNat)
  case atStart => exact ⟨0, by omega, rfl, by simpa [flds] using ho1, hu1⟩
  clear ho1 hu1
  case round =>
    obtain ⟨k, hk, rfl, ho, hu⟩ := hrel
    have hfl := flds_le (l.take k) 0
    rw [List.length_take] at hfl
    have hlen : (txt s ++ flds 0 (l.take k)).length ≤ 1056580 := by rw [List.length_append, txt_length]; omega
    replace ho := Lib.hid ho
    by_cases hlt : k < l.length
    · obtain ⟨hl0, a', c', hv, hnc, hcm, hc⟩ := hL.out
      injection hv with e1 _ e3
      subst e1; subst e3
      rcases hc with hc | ⟨g, off, rfl, hc⟩
      · omega
      have hck := hu.cell (hc k (.int .i64 l[k]) (by rw [List.getElem?_map, List.getElem?_eq_getElem hlt]; rfl)) (fun h => h)
      clear hc
      have hlt' : (k : Int) < l.length := by omega
      have hb := hwf.out l[k] (List.getElem_mem hlt)
      have hsz := hu.size
      go_wp2_with fail
      refine (lPut w.heap.size _ _ (k % 4) _ wr (by omega) hb.1 hb.2 ho.out (by omega) (by omega)).mono ?_
      rintro e w2 ⟨v2', rfl, ho2, hu2, hn2⟩
      go_wp2_with fail
      go_roundw
      case rel =>
        refine ⟨k + 1, by omega, by go_num, ?_, hu.trans hu2 fun j hj h => absurd (own_ge ho.out h) (by omega)⟩
        rw [flds_take l k hlt, ← List.append_assoc]
        exact ho2
      case measure => simp [intOf]; omega
    · obtain rfl : k = l.length := by omega
      rw [List.take_of_length_le (Nat.le_refl _)] at hlen ho
      clear hfl
      have hB0 : 0 < (txt s ++ flds 0 l).length := by rw [List.length_append, txt_length]; omega
      generalize hBB : txt s ++ flds 0 l = B at *
      obtain ⟨g1, c1, rfl, hc1, hm1, hb1, hg1⟩ := own_form ho.out hB0
      have hsz := hu.size
      replace hBB := Lib.hid hBB
      go_wp2_with (at_builtin; go_must (refine wpList_app rfl _ _ 22 22 rfl w.heap.size 5 (.int .u8 0) 1 1 Try.underlying22 hi.out rfl _ _ _ rfl ho.out v2 more.length (bc more) rfl (Src.ofHas Try.underlying22 (hM.out.upd hu fun _ _ h => h) (bc_one more)) ?h63 ?hby (by omega) ?_))
      case h63 => unfold maxLen; omega
      case hby => omega
      intro v3 w3 ho3 hu3 hf3
      have ho3' : Own w3 w.heap.size 5 v3 (B ++ more) := own_app ho3
      replace hu := Lib.hid (hu.trans hu3 fun j hj h => absurd (own_ge ho.out h) (by omega))
      clear ho3 hu3 hf3 ho hb1 hg1
      replace ho3' := Lib.hid ho3'.bytes
      go_wp2_with fail
      refine (fNewReader _ _ _ ho3'.out (by rw [List.length_append]; omega)).mono ?_
      rintro e w4 ⟨r1, rfl, hr1, hu4, hlt1⟩
      have hw4 := hu.out.size
      replace hu := Lib.hid (hu.out.trans hu4 fun _ _ h => h)
      clear hu4 ho3'
      replace hr1 := Lib.hid hr1
      go_wp2_with fail
      refine (fText r1 _ 0 0 s.length w4 hr1.out).mono ?_
      rw [← hBB.out, List.append_assoc, back_text s _ (by omega)]
      rintro e w5 ⟨rfl, hr1, hu5⟩
      replace hu := Lib.hid (hu.out.trans hu5 fun k hk h => by omega)
      clear hu5
      have e0 : txt s ++ (flds 0 l ++ more) = txt s ++ flds 0 l ++ more := by simp only [List.append_assoc]
      rw [e0] at hr1
      clear e0
      replace hr1 : RdAt w5 r1 w3.heap.size (txt s ++ flds 0 l ++ more) (txt s ++ flds 0 (l.take 0)).length 0 := by
        have : (txt s ++ flds 0 (l.take 0)).length = 4 + s.length := by simp [flds, txt_length]
        rw [this]
        exact hr1
      replace hr1 := Lib.hid hr1
      have hw5 := hu.out.size
      go_wp2_with fail
      go_loopw [11, 12] (fun i _ wr => ∃ k : Nat, k ≤ l.length ∧ i = .int .i64 k ∧ RdAt wr r1 w3.heap.size (txt s ++ flds 0 l ++ more) (txt s ++ flds 0 (l.take k)).length 0 ∧ Upd Non w wr) (fun i _ _ => l.length - (intOf i).toNat)
      case atStart => exact ⟨0, by omega, rfl, hr1.out, hu.out⟩
      clear hr1 hu hw5
      case round =>
        obtain ⟨k, hk, rfl, hr, hu⟩ := hrel
        have hsz := hu.size
        replace hr := Lib.hid hr
        replace hu := Lib.hid hu
        by_cases hlt : k < l.length
        · obtain ⟨hl0, a', c', hv, hnc, hcm, hc⟩ := hL.out
          injection hv with e1 _ e3
          subst e1; subst e3
          rcases hc with hc | ⟨g, off, rfl, hc⟩
          · omega
          have hck := hu.out.cell (hc k (.int .i64 l[k]) (by rw [List.getElem?_map, List.getElem?_eq_getElem hlt]; rfl)) (fun h => h)
          clear hc
          have hlt' : (k : Int) < l.length := by omega
          obtain ⟨q0, q1, q2, q3⟩ := low_want l[k] (k % 4) (hwf.out l[k] (List.getElem_mem hlt))
          have hg := Lib.hid (back_read s l more k hlt)
          have hrd := Lib.hid (lGet r1 _ _ 0 (k % 4) wr (by omega) hr.out)
          rw [hg.out] at hrd
          generalize hx : l[k] = x at *
          clear hx hg
          obtain h | h | h | h : k % 4 = 0 ∨ k % 4 = 1 ∨ k % 4 = 2 ∨ k % 4 = 3 := by omega
          · have hm4 : (k : Int) % 4 = 0 := by omega
            have qq := q0 h
            clear q0 q1 q2 q3
            rw [h] at hrd qq
            clear h
            go_wp2_with fail
            refine (hrd.out).mono ?_
            rintro e w6 ⟨rfl, hr2, hu2⟩
            go_wp2_with fail
            go_roundw
            case rel => exact ⟨k + 1, by omega, by go_num, hr2, hu.out.trans hu2 fun k hk h => by omega⟩
            case measure => simp [intOf]; omega
          · have hm4 : (k : Int) % 4 = 1 := by omega
            have qq := q1 h
            clear q0 q1 q2 q3
            rw [h] at hrd qq
            clear h
            go_wp2_with fail
            refine (hrd.out).mono ?_
            rintro e w6 ⟨rfl, hr2, hu2⟩
            go_wp2_with fail
            go_roundw
            case rel => exact ⟨k + 1, by omega, by go_num, hr2, hu.out.trans hu2 fun k hk h => by omega⟩
            case measure => simp [intOf]; omega
          · have hm4 : (k : Int) % 4 = 2 := by omega
            have qq := q2 h
            clear q0 q1 q2 q3
            rw [h] at hrd qq
            clear h
            go_wp2_with fail
            refine (hrd.out).mono ?_
            rintro e w6 ⟨rfl, hr2, hu2⟩
            go_wp2_with fail
            go_roundw
            case rel => exact ⟨k + 1, by omega, by go_num, hr2, hu.out.trans hu2 fun k hk h => by omega⟩
            case measure => simp [intOf]; omega
          · have hm4 : (k : Int) % 4 = 3 := by omega
            have qq := (q3 h).symm
            clear q0 q1 q2 q3
            rw [h] at hrd qq
            rw [qq] at hrd
            clear h
            go_wp2_with fail
            refine (hrd.out).mono ?_
            rintro e w6 ⟨rfl, hr2, hu2⟩
            go_wp2_with fail
            go_roundw
            case rel => exact ⟨k + 1, by omega, by go_num, hr2, hu.out.trans hu2 fun k hk h => by omega⟩
            case measure => simp [intOf]; omega
        · obtain rfl : k = l.length := by omega
          rw [List.take_of_length_le (Nat.le_refl _), hBB.out] at hr
          have hA := Lib.hid (fAt r1 _ _ _ _ hr.out)
          have hE := Lib.hid (fErr r1 _ _ _ _ hr.out)
          have hN := Lib.hid (fEnd r1 _ _ _ _ hr.out)
          have hEnd : rdEnd (B ++ more) B.length 0 = if more.length = 0 then 0 else 5 := by
            unfold rdEnd
            rw [if_pos rfl, List.length_append]
            by_cases h : more.length = 0
            · rw [if_pos h, if_neg (by omega)]
            · rw [if_neg h, if_pos (by omega)]
          rw [hEnd] at hN
          clear hEnd
          have hBl : ((txt s).length : Int) + ((flds 0 l).length : Int) = (B.length : Int) := by rw [← hBB.out, List.length_append]; omega
          obtain ⟨a2, c2, hv2⟩ := bytes_form hM.out
          subst hv2
          go_wp2_with (first | (go_at_call 19; refine hA.out.mono ?_; rintro e w' ⟨rfl, rfl⟩) | (go_at_call 20; refine hE.out.mono ?_; rintro e w' ⟨rfl, rfl⟩))
          by_cases h : more.length = 0
          all_goals
            first | rw [if_pos h] at hN | rw [if_neg h] at hN
            have hm0 : ((more.length : Int) == 0) = decide (more.length = 0) := by rw [Bool.eq_iff_iff]; simp
            first | rw [show decide (more.length = 0) = true from decide_eq_true h] at hm0 | rw [show decide (more.length = 0) = false from decide_eq_false h] at hm0
            clear h
            refine hN.out.mono ?_
            rintro e w7 ⟨rfl, nd, rfl⟩
            go_wp2_with fail
            refine (lives01 _).mono ?_
            rintro e w10 ⟨rfl, hu9⟩
            go_wp2_with fail
            go_ret
            exact ⟨rfl, (hu.out.then_drewN nd).trans hu9 fun _ _ h => h⟩

theorem back_all (l : List Int) (s more : List UInt8) (v0 v2 : Value) (w : World) (hs : s.length ≤ 1048576) (hm : more.length ≤ 1048576)
    (hL : Has w 1 v0 l.length (l.map (Value.int .i64))) (hwf : ∀ n ∈ l, (Lit.int .i64 n).wf = true) (hM : Bytes w v2 more) :
    Calls Try.prog 7 #[v0, .string ⟨s.toArray⟩, v2] w (Ret (.bool true) w) := by
  have hL' := hL
  obtain ⟨hl, a, c, rfl, h1, h2, h3⟩ := hL
  by_cases h : 1000 < l.length
  · exact back_out _ _ _ _ _ _ h
  · refine back_in l s more a c v2 w (by omega) hs hm hL' (fun n hn => ?_) hM
    simpa [Lit.wf, IntKind.min, IntKind.max, IntKind.signed, IntKind.bits] using hwf n hn
end Go.Proofs.Ytgemlapmjbgdkaa
