/- The walk over SlotWhole. -/
import Derived.Test.YtiadbijholnbjaaSlotElderW
import Derived.Test.YtiadbijholnbjaaSlK
namespace Go.Proofs.Ytiadbijholnbjaa
open Go.RowKit Go.Amb Go.Shelf
set_option linter.unusedVariables false
set_option linter.unusedSimpArgs false
/-- Texts, numbers, as cells. -/
def tc (l : List (List UInt8)) : List Value := l.map fun s => .string ⟨s.toArray⟩
def ic (l : List Int) : List Value := l.map fun x => .int .i64 x
abbrev TxtsAt (w : World) (v : Value) (l : List (List UInt8)) : Prop := Has w 1 v l.length (tc l)
abbrev OwnI (w0 w : World) (v : Value) (l : List Int) : Prop := w.ownsRow w0.heap.size 3 1 v l.length (ic l)
theorem txts_at {w : World} {v : Value} {l : List (List UInt8)} (h : TxtsAt w v l) : ∃ a c, v = .slice a l.length c ∧ ∀ k, k < l.length → ∃ g off s, a = some ⟨g, off, none⟩ ∧ l[k]? = some s ∧ w.cell? ⟨g, off + k, none⟩ = some (.string ⟨s.toArray⟩) := by
  obtain ⟨hl, a, c, rfl, h1, h2, h3⟩ := h
  refine ⟨a, c, rfl, fun k hk => ?_⟩
  rcases h3 with h3 | ⟨g, off, rfl, hc⟩
  · omega
  · exact ⟨g, off, l[k], rfl, List.getElem?_eq_getElem hk, hc _ _ (by simp [tc, hk])⟩
theorem has_take {w : World} {size n m c : Nat} {a : Option Addr} {xs : List Value} (h : Has w size (.slice a n c) n xs) (hm : m ≤ n) : Has w size (.slice a m c) m (xs.take (m * size)) := by
  obtain ⟨hl, a', c', hv, h1, h2, h3⟩ := h
  injection hv with h4 _ h5
  subst h4 h5
  have hms : m * size ≤ n * size := Nat.mul_le_mul_right _ hm
  refine ⟨by rw [List.length_take, hl]; omega, a, c, rfl, by omega, h2, ?_⟩
  rcases h3 with h3 | ⟨g, off, rfl, hc⟩
  · exact .inl (by omega)
  · exact .inr ⟨g, off, rfl, fun j u hj => hc j u (by rw [List.getElem?_take] at hj; split at hj <;> simp_all)⟩
theorem sc_take (l : List S5) : ∀ m, sc (l.take m) = (sc l).take (m * 5) := by
  induction l with
  | nil => intro m; simp [sc]
  | cons x l ih =>
    intro m
    cases m with
    | zero => simp [sc]
    | succ m =>
      show x.c ++ sc (l.take m) = (x.c ++ sc l).take ((m + 1) * 5)
      rw [ih, show (m + 1) * 5 = 5 + m * 5 by omega, List.take_add, List.take_left' (show x.c.length = 5 from rfl), List.drop_left' (show x.c.length = 5 from rfl)]
theorem sum_le (ep : Int) : ∀ (a : List (List UInt8)) (q : Int), okAll ep q a → sumN a ≤ 152 * a.length := by
  intro a
  induction a with
  | nil => intro q _; exact Nat.le_refl _
  | cons s r ih =>
    intro q h
    have h1 := ih _ h.2
    have h2 := h.1.1
    have h3 : pieceN s ≤ 152 := by unfold pieceN; omega
    simp only [sumN, List.length_cons]; omega
def endsI (q : Int) (ls : List (List UInt8)) (i : Nat) : List Int := (List.range i).map fun (j : Nat) => q + sumN (ls.take (j + 1))
theorem endsI_succ (q : Int) (ls : List (List UInt8)) (i : Nat) : endsI q ls (i + 1) = endsI q ls i ++ [q + sumN (ls.take (i + 1))] := by simp [endsI, List.range_succ]
theorem endsI_length (q : Int) (ls : List (List UInt8)) (i : Nat) : (endsI q ls i).length = i := by simp [endsI]
theorem endsI_get (q : Int) (ls : List (List UInt8)) (n i : Nat) (h : i < n) : (endsI q ls n)[i]? = some (q + sumN (ls.take (i + 1))) := by simp [endsI, h]
theorem take_succ_get {ls : List (List UInt8)} {i : Nat} {s : List UInt8} (h : ls[i]? = some s) : ls.take (i + 1) = ls.take i ++ [s] := by
  obtain ⟨h1, rfl⟩ := List.getElem?_eq_some_iff.1 h
  rw [List.take_succ_eq_append_getElem h1]
/-- How the first loop stands. -/
structure Cutting (w wr : World) (ep sq : Int) (ls : List (List UInt8)) (i : Nat) (ov nv : Value) : Prop where
  all : OwnS 41 w wr ov (cutAll ep sq (ls.take i))
  ends : OwnI w wr nv (endsI sq ls i)
  ok : okAll ep sq (ls.take i)
  nil : i = 0 → ov = .slice none 0 0 ∧ nv = .slice none 0 0
  upd : Upd Non w wr
set_option maxRecDepth 100000
set_option maxHeartbeats 4000000 in
theorem lSlotWhole (v : Value) (ls : List (List UInt8)) (ep sq lost : Int) (w : World) (hT : TxtsAt w v ls) (h63 : ls.length < 9223372036854775808) : Calls Try.prog 4 #[v, .int .i64 ep, .int .i64 sq, .int .i64 lost] w (Ret (.bool true) w) := by
  obtain ⟨la, lc, rfl, hat⟩ := txts_at hT
  replace hat := Lib.hid hat
  clear hT
  by_cases h1 : 20 < ls.length
  · have h1' : (20 : Int) < (ls.length : Int) := by omega
    clear h63 h1
    go_enter Try.func4, Try.ntmps4
    go_wp2_with fail
    refine (lives05 _).mono ?_
    rintro en w9 ⟨rfl, hu9⟩
    have hU9 := Upd.trans (Upd.refl Non w) hu9 fun _ _ h => h
    go_wp2_with fail
    go_ret
    exact ⟨rfl, hU9⟩
  have h1' : ¬ (20 : Int) < (ls.length : Int) := by omega
  clear h63
  by_cases h2 : sq < 0
  · go_enter Try.func4, Try.ntmps4
    go_wp2_with fail
    refine (lives05 _).mono ?_
    rintro en w9 ⟨rfl, hu9⟩
    have hU9 := Upd.trans (Upd.refl Non w) hu9 fun _ _ h => h
    go_wp2_with fail
    go_ret
    exact ⟨rfl, hU9⟩
  by_cases h3 : 1125899906842624 < sq
  · go_enter Try.func4, Try.ntmps4
    go_wp2_with fail
    refine (lives05 _).mono ?_
    rintro en w9 ⟨rfl, hu9⟩
    have hU9 := Upd.trans (Upd.refl Non w) hu9 fun _ _ h => h
    go_wp2_with fail
    go_ret
    exact ⟨rfl, hU9⟩
  by_cases h4 : lost < 0
  · go_enter Try.func4, Try.ntmps4
    go_wp2_with fail
    refine (lives05 _).mono ?_
    rintro en w9 ⟨rfl, hu9⟩
    have hU9 := Upd.trans (Upd.refl Non w) hu9 fun _ _ h => h
    go_wp2_with fail
    go_ret
    exact ⟨rfl, hU9⟩
  obtain ⟨lost, rfl⟩ := Int.eq_ofNat_of_zero_le (show 0 ≤ lost by omega)
  generalize hn : ls.length = n at *
  go_enter Try.func4, Try.ntmps4
  go_wp2_with fail
  go_loopw [9, 10, 11, 12] (fun ov nv av iv wr => ∃ i : Nat, iv = .int .i64 (i : Int) ∧ i ≤ n ∧ av = .int .i64 (sq + sumN (ls.take i)) ∧ Cutting w wr ep sq ls i ov nv) (fun _ _ _ iv _ => n - (intOf iv).toNat)
  case atStart => exact ⟨0, rfl, by omega, by simp [sumN], ⟨World.ownsRow_nil _ _ _ _, World.ownsRow_nil _ _ _ _, trivial, fun _ => ⟨rfl, rfl⟩, Upd.refl _ _⟩⟩
  case round =>
    obtain ⟨i, rfl, hi, rfl, hc⟩ := hrel
    by_cases hin : i < n
    · have hin' : (i : Int) < (n : Int) := by omega
      have hi0 : (0 : Int) ≤ (i : Int) := by omega
      obtain ⟨gl, off, s, rfl, hs, x0⟩ := hat.out i hin
      have x0 := hc.upd.cell x0 fun h => h
      have hsum := sum_le ep _ _ hc.ok
      rw [List.length_take] at hsum
      have hti := take_succ_get hs
      have hA := hc.all
      unfold OwnS at hA
      rw [cutAll_length] at hA
      have hE := hc.ends
      unfold OwnI at hE
      rw [endsI_length] at hE
      have hsS : sumN (ls.take (i + 1)) = sumN (ls.take i) + pieceN s := by rw [hti, sumN_append]; simp [sumN]
      obtain ⟨M, hM⟩ : ∃ M, sumN (ls.take i) = M := ⟨_, rfl⟩
      have hM2 : M ≤ 3040 := by omega
      by_cases hk : cutOk ep (sq + (M : Int)) s
      · have hct := Lib.hid (lCutYes s ep (sq + M) hk)
        have hN2 : pieceN s ≤ 152 := by have := hk.1; unfold pieceN; omega
        have hNp := pieceN_pos s
        have hcall : cutAll ep sq (ls.take (i + 1)) = cutAll ep sq (ls.take i) ++ cutS ep (sq + M) s := by rw [hti, cutAll_append, hM]; simp [cutAll]
        have hokk : okAll ep sq (ls.take (i + 1)) := by rw [hti, okAll_append, hM]; exact ⟨hc.ok, hk, trivial⟩
        have hend := endsI_succ sq ls i
        rw [hsS, hM] at hend
        have hlc := cutS_length ep (sq + M) s
        have hla := cutAll_length ep (ls.take i) sq
        have hle := endsI_length sq ls i
        have hinf := Lib.hid (@info_slot)
        have hinf2 := Lib.hid (show (Try.prog.info? 3).map (fun i => (i.zero, i.size, i.bytes)) = some (some (.int .i64 0), 1, 8) from rfl)
        have hU := hc.upd
        rw [hM] at hA hla hsS ⊢
        have hw1 : IntKind.i64.wrap (sq + (M : Int) + (pieceN s : Int)) = sq + (M : Int) + (pieceN s : Int) := IntWalk.i64_in _ ⟨by omega, by omega⟩
        generalize hNN : pieceN s = N at *
        have hNb : (N : Int) ≤ 152 := by omega
        clear hsum hc hk hti hs
        replace hokk := Lib.hid hokk
        replace hend := Lib.hid hend
        replace hcall := Lib.hid hcall
        replace hlc := Lib.hid hlc
        replace hla := Lib.hid hla
        replace hle := Lib.hid hle
        replace hsS := Lib.hid hsS
        replace hM := Lib.hid hM
        go_wp2_with fail
        refine (hct.out _).mono ?_
        rintro en w1 ⟨gx, cx, rfl, hx, hu1⟩
        have hA1 := hu1.owns hA fun _ _ h => h
        have hE1 := hu1.owns hE fun _ _ h => h
        have hU1 := hU.trans hu1 fun _ _ h => h
        have hz1 := hU1.size
        unfold SlotsAt at hx
        rw [hlc.out] at hx
        clear hA hE hU hu1 x0
        replace hx := Lib.hid hx
        go_wp2_with (at_builtin; go_must (refine wpList_app rfl _ _ 22 22 rfl w.heap.size 41 (.agg #[.int .i64 0, .int .i64 0, .bool false, .bool false, .string ⟨#[]⟩]) 5 40 Try.underlying22 hinf.out rfl _ _ _ rfl hA1 (.slice (some ⟨gx, 0, none⟩) N cx) N (sc (cutS ep (sq + M) s)) rfl (Src.ofHas Try.underlying22 hx.out (sc_one _)) (by unfold maxLen; omega) (by omega) hz1 ?_))
        intro v2 w2 ho2 hu2 hf2
        have hE2 := hu2.owns hE1 fun k hk h => own_apart hE1 hA1 (by decide) k hk h
        have hA2 : OwnS 41 w w2 v2 (cutAll ep sq (ls.take (i + 1))) := by
          unfold OwnS
          rw [hcall.out, sc_append, List.length_append, hla.out, hlc.out]
          exact ho2
        have hU2 : Upd Non w w2 := hU1.trans hu2 fun j hj h => absurd (own_ge hA1 h) (by omega)
        have hz2 := hU2.size
        clear ho2 hu2 hf2 hA1 hE1 hU1 hx
        replace hA2 := Lib.hid hA2
        go_wp2_with (at_builtin; go_must (refine wpList_app1n rfl _ _ 32 rfl w.heap.size 3 (.int .i64 0) 1 8 Try.underlying32 hinf2.out rfl _ _ _ rfl hE2 [.int .i64 (sq + (M : Int) + (N : Int))] w2.heap.size rfl rfl rfl (by simp [Value.oneCell']) (by unfold maxLen; omega) (by omega) hz2 ?_))
        intro v3 w3 ho3 hu3 hf3
        have hA3 := hu3.owns hA2.out fun k hk h => own_apart hA2.out hE2 (by decide) k hk h
        have hE3 : OwnI w w3 v3 (endsI sq ls (i + 1)) := by
          unfold OwnI
          rw [hend.out, List.length_append, hle.out, show ic (endsI sq ls i ++ [sq + ((M + N : Nat) : Int)]) = ic (endsI sq ls i) ++ [.int .i64 (sq + ((M + N : Nat) : Int))] by simp [ic], show sq + ((M + N : Nat) : Int) = sq + (M : Int) + (N : Int) by omega]
          exact ho3
        have hU3 : Upd Non w w3 := hU2.trans hu3 fun j hj h => absurd (own_ge hE2 h) (by omega)
        clear ho3 hu3 hf3 hA2 hE2 hU2
        go_wp2_with fail
        go_roundw
        case rel => exact ⟨i + 1, by go_num, by omega, by rw [hsS.out]; congr 1; omega, ⟨hA3, hE3, hokk.out, fun h => by omega, hU3⟩⟩
        case measure => simp [intOf]; omega
      · have hct := Lib.hid (lCutNo s ep (sq + M) hk)
        have hU := hc.upd
        rw [hM]
        clear hsum hc hk hti hs hA hE hsS hM
        go_wp2_with fail
        refine (hct.out _).mono ?_
        rintro en w1 ⟨z, rfl, hz, hu1⟩
        have hU1 := hU.trans hu1 fun _ _ h => h
        go_wp2_with fail
        refine (lives05 _).mono ?_
        rintro en w9 ⟨rfl, hu9⟩
        have hU9 := Upd.trans (hU1) hu9 fun _ _ h => h
        go_wp2_with fail
        go_ret
        exact ⟨rfl, hU9⟩
    · obtain rfl : i = n := by omega
      have hin' : ¬ (i : Int) < (i : Int) := by omega
      obtain ⟨hA, hE, hok, hnil, hU⟩ := hc
      rw [List.take_of_length_le (by omega)] at hA hok ⊢
      have hsum := sum_le ep _ _ hok
      have hit := whole_iff ls
      have hwl := whole_le ls
      have hjs := joinS_all hok
      have hla := cutAll_length ep ls sq
      have hrl := recsL_length ls sq
      have hrg := recsL_get ls sq
      unfold OwnS at hA
      unfold OwnI at hE
      rw [hla] at hA
      rw [endsI_length] at hE
      have heg := endsI_get sq ls i
      rw [hn] at hsum hwl hrl hit
      by_cases hz : i = 0
      · obtain ⟨rfl, rfl⟩ := hnil hz
        obtain rfl : ls = [] := List.length_eq_zero_iff.1 (by omega)
        subst hz
        clear hsum hit hwl hjs hla hrl hrg hA hE heg hok hnil hat h1'
        simp only [sumN]
        by_cases hl0 : 0 < lost
        · have hl1 : (0 : Int) < (lost : Int) := by omega
          go_wp2_with fail
          refine (lives05 _).mono ?_
          rintro en w9 ⟨rfl, hu9⟩
          have hU9 := Upd.trans (hU) hu9 fun _ _ h => h
          go_wp2_with fail
          go_ret
          exact ⟨rfl, hU9⟩
        · obtain rfl : lost = 0 := by omega
          have hJ := Lib.hid (lJoin (.slice none 0 0) [] wr (Has.nil _ _) (by decide))
          have hsl : ∀ w : World, (Instr.slice 22 (.slice none 0 0) none (some (.int .i64 0)) none).run Try.prog w = .ok (.slice none 0 0) w := fun w => by
            simp [Instr.slice, run_underlying Try.underlying22, Instr.sliceBounds, run_sliceBound, go_sem]
          go_wp2_with fail
          refine hJ.out.mono ?_
          rintro en w1 hjj
          unfold JoinTo at hjj
          rw [show joinS ([] : List S5) = ⟨[], 0, [], -1⟩ from rfl] at hjj
          obtain ⟨v1, rfl, ho1, hu1⟩ := hjj
          obtain ⟨hl', a1, c1, rfl, -, -, -⟩ := has_of_owns ho1
          have hU1 := hU.trans hu1 fun _ _ h => h
          clear hJ ho1 hl'
          go_wp2_with fail
          go_loopw [17, 18, 19] (fun wv nv kv wq => wv = .int .i64 0 ∧ nv = .int .i64 sq ∧ kv = .int .i64 0 ∧ Upd Non w1 wq) (fun _ _ _ _ => 0)
          case atStart => exact ⟨rfl, by simp, rfl, Upd.refl _ _⟩
          case round =>
            obtain ⟨rfl, rfl, rfl, huq⟩ := hrel
            by_cases hs0 : sq = 0
            · subst hs0
              go_wp2_with fail
              go_loopw [20] (fun kv wq => kv = .int .i64 0 ∧ Upd Non w1 wq) (fun _ _ => 0)
              case atStart => exact ⟨rfl, huq⟩
              case round =>
                clear huq
                obtain ⟨rfl, huq⟩ := hrel
                have hUq := hU1.trans huq fun _ _ h => h
                go_wp2_with fail
                refine (lives05 _).mono ?_
                rintro en w9 ⟨rfl, hu9⟩
                have hU9 := Upd.trans (hUq) hu9 fun _ _ h => h
                go_wp2_with fail
                go_ret
                exact ⟨rfl, hU9⟩
            · have hs1 : ¬ 0 = sq := fun h => hs0 h.symm
              go_wp2_with fail
              go_loopw [20] (fun kv wq => kv = .int .i64 0 ∧ Upd Non w1 wq) (fun _ _ => 0)
              case atStart => exact ⟨rfl, huq⟩
              case round =>
                clear huq
                obtain ⟨rfl, huq⟩ := hrel
                have hUq := hU1.trans huq fun _ _ h => h
                go_wp2_with fail
                refine (lives05 _).mono ?_
                rintro en w9 ⟨rfl, hu9⟩
                have hU9 := Upd.trans (hUq) hu9 fun _ _ h => h
                go_wp2_with fail
                go_ret
                exact ⟨rfl, hU9⟩
      · have hM1 : 1 ≤ sumN ls := by
          cases ls with
          | nil => simp at hn; omega
          | cons x r => have := pieceN_pos x; simp only [sumN]; omega
        generalize hMM : sumN ls = M at *
        have hM2 : (M : Int) ≤ 3040 := by omega
        obtain ⟨gA, cA, rfl, -, -, hcA⟩ := own_rowform hA (by omega)
        obtain ⟨gE, cE, rfl, -, -, -⟩ := own_rowform hE (by omega)
        have hwat : IntKind.i64.wrap (sq + (M : Int) - (lost : Int)) = sq + (M : Int) - (lost : Int) ∨ M < lost := by
          by_cases h : M < lost
          · exact .inr h
          · exact .inl (IntWalk.i64_in _ ⟨by omega, by omega⟩)
        by_cases hl : (M : Int) < (lost : Int)
        · clear hwat hit hwl hjs hla hrl hrg hA hE heg hok
          go_wp2_with fail
          refine (lives05 _).mono ?_
          rintro en w9 ⟨rfl, hu9⟩
          have hU9 := Upd.trans (hU) hu9 fun _ _ h => h
          go_wp2_with fail
          go_ret
          exact ⟨rfl, hU9⟩
        · have hwat := hwat.resolve_right (by omega)
          obtain ⟨m, hm⟩ : ∃ m, M - lost = m := ⟨_, rfl⟩
          have hmi : (M : Int) - (lost : Int) = (m : Int) := by omega
          have hmw : IntKind.i64.wrap ((M : Int) - (lost : Int)) = (m : Int) := by rw [hmi]; exact IntWalk.i64_in _ ⟨by omega, by omega⟩
          have hm0 : (0 : Int) ≤ (m : Int) := by omega
          have hmc : (m : Int) ≤ (cA : Int) := by omega
          obtain ⟨W, hW⟩ : ∃ W, wholeN ls m = W := ⟨_, rfl⟩
          replace hit := Lib.hid (fun k hk => hit m k hk)
          have hWn := hwl m
          replace hjs := hjs m
          rw [hW] at hit hWn hjs
          have hT : SlotsAt wr (.slice (some ⟨gA, 0, none⟩) m cA) ((cutAll ep sq ls).take m) := by
            have := has_take (has_of_owns hA) (show m ≤ M by omega)
            rw [← sc_take] at this
            unfold SlotsAt
            rw [List.length_take, hla, Nat.min_eq_left (by omega)]
            exact this
          obtain ⟨nx, hnx⟩ : ∃ nx, (joinS ((cutAll ep sq ls).take m)).next = nx := ⟨_, rfl⟩
          have hJ : Hid (Calls Try.prog 13 #[.slice (some ⟨gA, 0, none⟩) m cA] wr (fun en w' => ∃ a c, en = .returned (.tuple #[.slice a W c, .int .i64 nx]) ∧ (∀ k, k < W → ∃ g off s, a = some ⟨g, off, none⟩ ∧ ls[k]? = some s ∧ w'.cell? ⟨g, off + k * 3, none⟩ = some (.int .i64 (sq + sumN (ls.take k))) ∧ w'.cell? ⟨g, off + k * 3 + 1, none⟩ = some (.int .i64 (sq + sumN (ls.take (k + 1)))) ∧ w'.cell? ⟨g, off + k * 3 + 2, none⟩ = some (.string ⟨s.toArray⟩)) ∧ Upd Non wr w')) := by
            refine (lJoin _ _ _ hT (by rw [List.length_take]; omega)).mono fun en w' h => ?_
            obtain ⟨v', rfl, ho, hu⟩ := h
            have hh := has_of_owns ho
            rw [hjs.1] at hh
            have hlen : ((recsL sq ls).take W).length = W := by rw [List.length_take, hrl]; omega
            rw [hlen] at hh
            obtain ⟨hl', a, c, rfl, _, _, h3⟩ := hh
            refine ⟨a, c, by rw [hnx], fun k hk => ?_, hu⟩
            rcases h3 with h3 | ⟨g, off, rfl, hc⟩
            · omega
            · obtain ⟨j1, j2, j3⟩ := jc_get ((recsL sq ls).take W) k (by omega)
              have hs : ls[k]? = some ls[k] := List.getElem?_eq_getElem (by omega)
              have hr := hrg k _ hs
              have hr2 : ((recsL sq ls).take W)[k]? = some ⟨sq + sumN (ls.take k), sq + sumN (ls.take (k + 1)), ls[k]⟩ := by rw [List.getElem?_take, if_pos hk]; exact hr
              obtain ⟨hkl, hr3⟩ := List.getElem?_eq_some_iff.1 hr2
              rw [hr3] at j1 j2 j3
              exact ⟨g, off, ls[k], rfl, hs, hc _ _ j1, by rw [Nat.add_assoc]; exact hc _ _ j2, by rw [Nat.add_assoc]; exact hc _ _ j3⟩
          have hnx2 : (m = 0 ∧ nx = 0 ∧ W = 0) ∨ (0 < m ∧ nx = sq + sumN (ls.take W)) := by
            rw [hjs.2] at hnx
            by_cases h0 : m = 0
            · rw [if_pos (.inl h0)] at hnx
              exact .inl ⟨h0, hnx.symm, by
                have := (hit.out 0 (by omega))
                rw [Nat.zero_add] at this
                have h1 : 1 ≤ sumN (ls.take 1) := by
                  cases ls with
                  | nil => simp at hn; omega
                  | cons x r => have := pieceN_pos x; simp only [List.take_succ_cons, List.take_zero, sumN]; omega
                omega⟩
            · rw [if_neg (by intro h; rcases h with h | h; exact h0 h; subst h; simp at hn; omega)] at hnx
              exact .inr ⟨by omega, hnx.symm⟩
          have hec : ∀ k, k < i → wr.cell? ⟨gE, k, none⟩ = some (.int .i64 (sq + sumN (ls.take (k + 1)))) := fun k hk => by
            have := hE.cells (g := gE) rfl k (.int .i64 (sq + sumN (ls.take (k + 1)))) (by unfold ic; rw [List.getElem?_map, heg k hk]; rfl)
            rwa [Addr.add_lit, Nat.zero_add] at this
          have hst : Hid (∀ k, k < i → sumN (ls.take (k + 1)) ≤ 3040 ∧ sumN (ls.take k) ≤ 3040) := fun k hk => by
            have h1 := sumN_append (ls.take (k + 1)) (ls.drop (k + 1))
            have h2 := sumN_append (ls.take k) (ls.drop k)
            rw [List.take_append_drop, hMM] at h1 h2
            omega
          replace hec := Lib.hid hec
          replace hnx2 := Lib.hid hnx2
          clear hwl hjs hrl hrg hA hE heg hok hT hla hnx hW hm hsum
          go_wp2_with fail
          refine hJ.out.mono ?_
          rintro en w1 ⟨aj, cj, rfl, hrec, hu1⟩
          have hU1 := hU.trans hu1 fun _ _ h => h
          replace hrec := Lib.hid hrec
          clear hJ
          go_wp2_with fail
          go_loopw [17, 18, 19] (fun wv nv kv wq => ∃ k : Nat, kv = .int .i64 (k : Int) ∧ k ≤ i ∧ wv = .int .i64 ((min k W : Nat) : Int) ∧ nv = .int .i64 (sq + sumN (ls.take (min k W))) ∧ Upd Non w1 wq) (fun _ _ kv _ => i - (intOf kv).toNat)
          case atStart => exact ⟨0, rfl, by omega, by simp, by simp [sumN], Upd.refl _ _⟩
          case round =>
            obtain ⟨k, rfl, hk, rfl, rfl, huq⟩ := hrel
            by_cases hki : k < i
            · have hki' : (k : Int) < (i : Int) := by omega
              have hk0 : (0 : Int) ≤ (k : Int) := by omega
              have e0 := huq.cell (hu1.cell (hec.out k hki) fun h => h) fun h => h
              have hi2 := hit.out k (by omega)
              have hs2 := (hst.out k hki).1
              generalize hS2 : sumN (ls.take (k + 1)) = S2 at e0 hi2 hs2
              have hwk : IntKind.i64.wrap ((k : Int) + 1) = (k : Int) + 1 := IntWalk.i64_in _ ⟨by omega, by omega⟩
              by_cases hkW : k < W
              · have hle : sq + (S2 : Int) ≤ sq + (M : Int) - (lost : Int) := by omega
                clear hi2
                go_wp2_with fail
                go_quiet (fail)
                go_wp2_with fail
                go_roundw
                case rel => exact ⟨k + 1, by go_num, by omega, by rw [Nat.min_eq_left (by omega)]; (first | go_num | (simp [hwk])), by rw [Nat.min_eq_left (by omega), hS2], huq.then_drewN _⟩
                case measure => simp [intOf]; omega
              · have hle : ¬ (sq + (S2 : Int) ≤ sq + (M : Int) - (lost : Int)) := by omega
                clear hi2
                rw [Nat.min_eq_right (by omega)]
                go_wp2_with fail
                go_roundw
                case rel => exact ⟨k + 1, by go_num, by omega, by rw [Nat.min_eq_right (by omega)], by rw [Nat.min_eq_right (by omega)], huq⟩
                case measure => simp [intOf]; omega
            · obtain rfl : k = i := by omega
              have hki' : ¬ (k : Int) < (k : Int) := by omega
              rw [Nat.min_eq_right (by omega)]
              have hnl : m = 0 → ¬ (lost : Int) < (M : Int) := fun h => by omega
              rcases hnx2.out with ⟨rfl, rfl, rfl⟩ | ⟨hmp, rfl⟩
              · have hnl := hnl rfl
                rw [List.take_zero]
                by_cases hs0 : sq = 0
                · subst hs0
                  simp only [sumN]
                  go_wp2_with fail
                  go_loopw [20] (fun kv wq => kv = .int .i64 0 ∧ Upd Non w1 wq) (fun _ _ => 0)
                  case atStart => exact ⟨rfl, huq⟩
                  case round =>
                    clear huq
                    obtain ⟨rfl, huq⟩ := hrel
                    have hUq := hU1.trans huq fun _ _ h => h
                    go_wp2_with fail
                    refine (lives05 _).mono ?_
                    rintro en w9 ⟨rfl, hu9⟩
                    have hU9 := Upd.trans (hUq) hu9 fun _ _ h => h
                    go_wp2_with fail
                    go_ret
                    exact ⟨rfl, hU9⟩
                · have hs1 : ¬ 0 = sq := fun h => hs0 h.symm
                  simp only [sumN]
                  go_wp2_with fail
                  go_loopw [20] (fun kv wq => kv = .int .i64 0 ∧ Upd Non w1 wq) (fun _ _ => 0)
                  case atStart => exact ⟨rfl, huq⟩
                  case round =>
                    clear huq
                    obtain ⟨rfl, huq⟩ := hrel
                    have hUq := hU1.trans huq fun _ _ h => h
                    go_wp2_with fail
                    refine (lives05 _).mono ?_
                    rintro en w9 ⟨rfl, hu9⟩
                    have hU9 := Upd.trans (hUq) hu9 fun _ _ h => h
                    go_wp2_with fail
                    go_ret
                    exact ⟨rfl, hU9⟩
              · clear hnl
                go_wp2_with fail
                go_loopw [20] (fun kv wq => ∃ j : Nat, kv = .int .i64 (j : Int) ∧ j ≤ W ∧ Upd Non w1 wq) (fun kv _ => W - (intOf kv).toNat)
                case atStart => exact ⟨0, rfl, by omega, huq⟩
                case round =>
                  clear huq
                  obtain ⟨j, rfl, hj, huq⟩ := hrel
                  by_cases hjW : j < W
                  · have hjW' : (j : Int) < ((W : Nat) : Int) := by omega
                    have hj0 : (0 : Int) ≤ (j : Int) := by omega
                    have hjk' : (j : Int) < (k : Int) := by omega
                    obtain ⟨gj, oj, s, rfl, hs, r0, r1, r2⟩ := hrec.out j hjW
                    obtain ⟨gl, off, s', rfl, hs', x0⟩ := hat.out j (by omega)
                    obtain rfl : s = s' := by rw [hs] at hs'; injection hs'
                    have r0 := huq.cell r0 fun h => h
                    have r1 := huq.cell r1 fun h => h
                    have r2 := huq.cell r2 fun h => h
                    have x0 := huq.cell (hU1.cell x0 fun h => h) fun h => h
                    have e0 := huq.cell (hu1.cell (hec.out j (by omega)) fun h => h) fun h => h
                    clear hs hs'
                    generalize sumN (ls.take (j + 1)) = S1 at r1 e0
                    by_cases hjp : j = 0
                    · have hni : ¬ (0 : Int) < (j : Int) := by omega
                      have hni2 : ¬ 0 < j := by omega
                      clear hjp
                      go_wp2_with fail
                      refine wp_region_held_drew (S := (fun w' => w'.cell? ⟨gj, oj + j * 3 + 2, none⟩ = some (.string ⟨s.toArray⟩) ∧ w'.cell? ⟨gl, off + j, none⟩ = some (.string ⟨s.toArray⟩) ∧ w'.cell? ⟨gj, oj + j * 3 + 1, none⟩ = some (.int .i64 (sq + (S1 : Int))) ∧ w'.cell? ⟨gE, j, none⟩ = some (.int .i64 (sq + (S1 : Int))))) (by kernel_rfl) (by (try dsimp only); exact ⟨r2, x0, r1, e0⟩) (fun hHeld => ?_)
                      (refine wpAnyH_take (i := 0) (oi := ?oi_1_0) (v := ?v_1_0) ?ho_1_0 ?hs_1_0 ?hf_1_0 ?hr_1_0 ?hQ_1_0 ?hy_1_0 ?hS_1_0 ?rest_1_0; (case hr_1_0 => kernel_rfl); (case hf_1_0 => kernel_rfl); (case hs_1_0 => kernel_rfl); (case ho_1_0 => (simp only [List.getElem?_toArray, List.getElem?_cons_succ, List.getElem?_cons_zero]; rfl)); (case hS_1_0 => assumption); (case hQ_1_0 => exact fun _ _ _ h => h); (case hy_1_0 => (refine Or.inl ⟨by rfl, ?_⟩; (intro w hSw; (try dsimp only at hSw); go_simp) <;> with_reducible rfl)); (try simp only [Act.put, List.setIfInBounds_toArray, List.set_cons_zero, List.set_cons_succ]))
                      (refine wpAnyH_take (i := 1) (oi := ?oi_1_1) (v := ?v_1_1) ?ho_1_1 ?hs_1_1 ?hf_1_1 ?hr_1_1 ?hQ_1_1 ?hy_1_1 ?hS_1_1 ?rest_1_1; (case hr_1_1 => kernel_rfl); (case hf_1_1 => kernel_rfl); (case hs_1_1 => kernel_rfl); (case ho_1_1 => (simp only [List.getElem?_toArray, List.getElem?_cons_succ, List.getElem?_cons_zero]; rfl)); (case hS_1_1 => assumption); (case hQ_1_1 => exact fun _ _ _ h => h); (case hy_1_1 => (refine Or.inl ⟨by rfl, ?_⟩; (intro w hSw; (try dsimp only at hSw); go_simp) <;> with_reducible rfl)); (try simp only [Act.put, List.setIfInBounds_toArray, List.set_cons_zero, List.set_cons_succ]))
                      (refine wpAnyH_take (i := 2) (oi := ?oi_1_2) (v := ?v_1_2) ?ho_1_2 ?hs_1_2 ?hf_1_2 ?hr_1_2 ?hQ_1_2 ?hy_1_2 ?hS_1_2 ?rest_1_2; (case hr_1_2 => kernel_rfl); (case hf_1_2 => kernel_rfl); (case hs_1_2 => kernel_rfl); (case ho_1_2 => (simp only [List.getElem?_toArray, List.getElem?_cons_succ, List.getElem?_cons_zero]; rfl)); (case hS_1_2 => assumption); (case hQ_1_2 => exact fun _ _ _ h => h); (case hy_1_2 => (refine Or.inl ⟨by rfl, ?_⟩; (intro w hSw; (try dsimp only at hSw); go_simp) <;> with_reducible rfl)); (try simp only [Act.put, List.setIfInBounds_toArray, List.set_cons_zero, List.set_cons_succ]))
                      (refine wpAnyH_take (i := 3) (oi := ?oi_1_3) (v := ?v_1_3) ?ho_1_3 ?hs_1_3 ?hf_1_3 ?hr_1_3 ?hQ_1_3 ?hy_1_3 ?hS_1_3 ?rest_1_3; (case hr_1_3 => kernel_rfl); (case hf_1_3 => kernel_rfl); (case hs_1_3 => kernel_rfl); (case ho_1_3 => (simp only [List.getElem?_toArray, List.getElem?_cons_succ, List.getElem?_cons_zero]; rfl)); (case hS_1_3 => assumption); (case hQ_1_3 => exact fun _ _ _ h => h); (case hy_1_3 => (refine Or.inl ⟨by rfl, ?_⟩; (intro w hSw; (try dsimp only at hSw); go_simp) <;> with_reducible rfl)); (try simp only [Act.put, List.setIfInBounds_toArray, List.set_cons_zero, List.set_cons_succ]))
                      (refine wpAnyH_take (i := 4) (oi := ?oi_1_4) (v := ?v_1_4) ?ho_1_4 ?hs_1_4 ?hf_1_4 ?hr_1_4 ?hQ_1_4 ?hy_1_4 ?hS_1_4 ?rest_1_4; (case hr_1_4 => kernel_rfl); (case hf_1_4 => kernel_rfl); (case hs_1_4 => kernel_rfl); (case ho_1_4 => (simp only [List.getElem?_toArray, List.getElem?_cons_succ, List.getElem?_cons_zero]; rfl)); (case hS_1_4 => assumption); (case hQ_1_4 => exact fun _ _ _ h => h); (case hy_1_4 => (refine Or.inl ⟨by rfl, ?_⟩; (intro w hSw; (try dsimp only at hSw); go_simp) <;> with_reducible rfl)); (try simp only [Act.put, List.setIfInBounds_toArray, List.set_cons_zero, List.set_cons_succ]))
                      (refine wpAnyH_take (i := 5) (oi := ?oi_1_5) (v := ?v_1_5) ?ho_1_5 ?hs_1_5 ?hf_1_5 ?hr_1_5 ?hQ_1_5 ?hy_1_5 ?hS_1_5 ?rest_1_5; (case hr_1_5 => kernel_rfl); (case hf_1_5 => kernel_rfl); (case hs_1_5 => kernel_rfl); (case ho_1_5 => (simp only [List.getElem?_toArray, List.getElem?_cons_succ, List.getElem?_cons_zero]; rfl)); (case hS_1_5 => assumption); (case hQ_1_5 => exact fun _ _ _ h => h); (case hy_1_5 => (refine Or.inl ⟨by rfl, ?_⟩; (intro w hSw; (try dsimp only at hSw); go_simp) <;> with_reducible rfl)); (try simp only [Act.put, List.setIfInBounds_toArray, List.set_cons_zero, List.set_cons_succ]))
                      (refine wpAnyH_take (i := 6) (oi := ?oi_1_6) (v := ?v_1_6) ?ho_1_6 ?hs_1_6 ?hf_1_6 ?hr_1_6 ?hQ_1_6 ?hy_1_6 ?hS_1_6 ?rest_1_6; (case hr_1_6 => kernel_rfl); (case hf_1_6 => kernel_rfl); (case hs_1_6 => kernel_rfl); (case ho_1_6 => (simp only [List.getElem?_toArray, List.getElem?_cons_succ, List.getElem?_cons_zero]; rfl)); (case hS_1_6 => assumption); (case hQ_1_6 => exact fun _ _ _ h => h); (case hy_1_6 => (refine Or.inl ⟨by rfl, ?_⟩; (intro w hSw; (try dsimp only at hSw); go_simp) <;> with_reducible rfl)); (try simp only [Act.put, List.setIfInBounds_toArray, List.set_cons_zero, List.set_cons_succ]))
                      (refine wpAnyH_take (i := 7) (oi := ?oi_1_7) (v := ?v_1_7) ?ho_1_7 ?hs_1_7 ?hf_1_7 ?hr_1_7 ?hQ_1_7 ?hy_1_7 ?hS_1_7 ?rest_1_7; (case hr_1_7 => kernel_rfl); (case hf_1_7 => kernel_rfl); (case hs_1_7 => kernel_rfl); (case ho_1_7 => (simp only [List.getElem?_toArray, List.getElem?_cons_succ, List.getElem?_cons_zero]; rfl)); (case hS_1_7 => assumption); (case hQ_1_7 => exact fun _ _ _ h => h); (case hy_1_7 => (refine Or.inl ⟨by rfl, ?_⟩; (intro w hSw; (try dsimp only at hSw); go_simp) <;> with_reducible rfl)); (try simp only [Act.put, List.setIfInBounds_toArray, List.set_cons_zero, List.set_cons_succ]))
                      (refine wpAnyH_take (i := 8) (oi := ?oi_1_8) (v := ?v_1_8) ?ho_1_8 ?hs_1_8 ?hf_1_8 ?hr_1_8 ?hQ_1_8 ?hy_1_8 ?hS_1_8 ?rest_1_8; (case hr_1_8 => kernel_rfl); (case hf_1_8 => kernel_rfl); (case hs_1_8 => kernel_rfl); (case ho_1_8 => (simp only [List.getElem?_toArray, List.getElem?_cons_succ, List.getElem?_cons_zero]; rfl)); (case hS_1_8 => assumption); (case hQ_1_8 => exact fun _ _ _ h => h); (case hy_1_8 => (refine Or.inl ⟨by rfl, ?_⟩; (intro w hSw; (try dsimp only at hSw); go_simp) <;> with_reducible rfl)); (try simp only [Act.put, List.setIfInBounds_toArray, List.set_cons_zero, List.set_cons_succ]))
                      (refine wpAnyH_take (i := 9) (oi := ?oi_1_9) (v := ?v_1_9) ?ho_1_9 ?hs_1_9 ?hf_1_9 ?hr_1_9 ?hQ_1_9 ?hy_1_9 ?hS_1_9 ?rest_1_9; (case hr_1_9 => kernel_rfl); (case hf_1_9 => kernel_rfl); (case hs_1_9 => kernel_rfl); (case ho_1_9 => (simp only [List.getElem?_toArray, List.getElem?_cons_succ, List.getElem?_cons_zero]; rfl)); (case hS_1_9 => assumption); (case hQ_1_9 => exact fun _ _ _ h => h); (case hy_1_9 => (refine Or.inl ⟨by rfl, ?_⟩; (intro w hSw; (try dsimp only at hSw); go_simp) <;> with_reducible rfl)); (try simp only [Act.put, List.setIfInBounds_toArray, List.set_cons_zero, List.set_cons_succ]))
                      (refine wpAnyH_take (i := 10) (oi := ?oi_1_10) (v := ?v_1_10) ?ho_1_10 ?hs_1_10 ?hf_1_10 ?hr_1_10 ?hQ_1_10 ?hy_1_10 ?hS_1_10 ?rest_1_10; (case hr_1_10 => kernel_rfl); (case hf_1_10 => kernel_rfl); (case hs_1_10 => kernel_rfl); (case ho_1_10 => (simp only [List.getElem?_toArray, List.getElem?_cons_succ, List.getElem?_cons_zero]; rfl)); (case hS_1_10 => assumption); (case hQ_1_10 => exact fun _ _ _ h => h); (case hy_1_10 => (refine Or.inl ⟨by rfl, ?_⟩; (intro w hSw; (try dsimp only at hSw); go_simp) <;> with_reducible rfl)); (try simp only [Act.put, List.setIfInBounds_toArray, List.set_cons_zero, List.set_cons_succ]))
                      (refine wpAnyH_take (i := 11) (oi := ?oi_1_11) (v := ?v_1_11) ?ho_1_11 ?hs_1_11 ?hf_1_11 ?hr_1_11 ?hQ_1_11 ?hy_1_11 ?hS_1_11 ?rest_1_11; (case hr_1_11 => kernel_rfl); (case hf_1_11 => kernel_rfl); (case hs_1_11 => kernel_rfl); (case ho_1_11 => (simp only [List.getElem?_toArray, List.getElem?_cons_succ, List.getElem?_cons_zero]; rfl)); (case hS_1_11 => assumption); (case hQ_1_11 => exact fun _ _ _ h => h); (case hy_1_11 => (refine Or.inl ⟨by rfl, ?_⟩; (intro w hSw; (try dsimp only at hSw); go_simp) <;> with_reducible rfl)); (try simp only [Act.put, List.setIfInBounds_toArray, List.set_cons_zero, List.set_cons_succ]))
                      (refine wpAnyH_take (i := 12) (oi := ?oi_1_12) (v := ?v_1_12) ?ho_1_12 ?hs_1_12 ?hf_1_12 ?hr_1_12 ?hQ_1_12 ?hy_1_12 ?hS_1_12 ?rest_1_12; (case hr_1_12 => kernel_rfl); (case hf_1_12 => kernel_rfl); (case hs_1_12 => kernel_rfl); (case ho_1_12 => (simp only [List.getElem?_toArray, List.getElem?_cons_succ, List.getElem?_cons_zero]; rfl)); (case hS_1_12 => assumption); (case hQ_1_12 => exact fun _ _ _ h => h); (case hy_1_12 => (refine Or.inl ⟨by rfl, ?_⟩; (intro w hSw; (try dsimp only at hSw); go_simp) <;> with_reducible rfl)); (try simp only [Act.put, List.setIfInBounds_toArray, List.set_cons_zero, List.set_cons_succ]))
                      (refine wpAnyH_take (i := 13) (oi := ?oi_1_13) (v := ?v_1_13) ?ho_1_13 ?hs_1_13 ?hf_1_13 ?hr_1_13 ?hQ_1_13 ?hy_1_13 ?hS_1_13 ?rest_1_13; (case hr_1_13 => kernel_rfl); (case hf_1_13 => kernel_rfl); (case hs_1_13 => kernel_rfl); (case ho_1_13 => (simp only [List.getElem?_toArray, List.getElem?_cons_succ, List.getElem?_cons_zero]; rfl)); (case hS_1_13 => assumption); (case hQ_1_13 => exact fun _ _ _ h => h); (case hy_1_13 => (refine Or.inl ⟨by rfl, ?_⟩; (intro w hSw; (try dsimp only at hSw); go_simp) <;> with_reducible rfl)); (try simp only [Act.put, List.setIfInBounds_toArray, List.set_cons_zero, List.set_cons_succ]))
                      (refine wpAnyH_take (i := 14) (oi := ?oi_1_14) (v := ?v_1_14) ?ho_1_14 ?hs_1_14 ?hf_1_14 ?hr_1_14 ?hQ_1_14 ?hy_1_14 ?hS_1_14 ?rest_1_14; (case hr_1_14 => kernel_rfl); (case hf_1_14 => kernel_rfl); (case hs_1_14 => kernel_rfl); (case ho_1_14 => (simp only [List.getElem?_toArray, List.getElem?_cons_succ, List.getElem?_cons_zero]; rfl)); (case hS_1_14 => assumption); (case hQ_1_14 => exact fun _ _ _ h => h); (case hy_1_14 => (refine Or.inl ⟨by rfl, ?_⟩; (intro w hSw; (try dsimp only at hSw); go_simp) <;> with_reducible rfl)); (try simp only [Act.put, List.setIfInBounds_toArray, List.set_cons_zero, List.set_cons_succ]))
                      (refine wpAnyH_take (i := 15) (oi := ?oi_1_15) (v := ?v_1_15) ?ho_1_15 ?hs_1_15 ?hf_1_15 ?hr_1_15 ?hQ_1_15 ?hy_1_15 ?hS_1_15 ?rest_1_15; (case hr_1_15 => kernel_rfl); (case hf_1_15 => kernel_rfl); (case hs_1_15 => kernel_rfl); (case ho_1_15 => (simp only [List.getElem?_toArray, List.getElem?_cons_succ, List.getElem?_cons_zero]; rfl)); (case hS_1_15 => assumption); (case hQ_1_15 => exact fun _ _ _ h => h); (case hy_1_15 => (refine Or.inl ⟨by rfl, ?_⟩; (intro w hSw; (try dsimp only at hSw); go_simp) <;> with_reducible rfl)); (try simp only [Act.put, List.setIfInBounds_toArray, List.set_cons_zero, List.set_cons_succ]))
                      (refine wpAnyH_take (i := 16) (oi := ?oi_1_16) (v := ?v_1_16) ?ho_1_16 ?hs_1_16 ?hf_1_16 ?hr_1_16 ?hQ_1_16 ?hy_1_16 ?hS_1_16 ?rest_1_16; (case hr_1_16 => kernel_rfl); (case hf_1_16 => kernel_rfl); (case hs_1_16 => kernel_rfl); (case ho_1_16 => (simp only [List.getElem?_toArray, List.getElem?_cons_succ, List.getElem?_cons_zero]; rfl)); (case hS_1_16 => assumption); (case hQ_1_16 => exact fun _ _ _ h => h); (case hy_1_16 => (refine Or.inl ⟨by rfl, ?_⟩; (intro w hSw; (try dsimp only at hSw); go_simp) <;> with_reducible rfl)); (try simp only [Act.put, List.setIfInBounds_toArray, List.set_cons_zero, List.set_cons_succ]))
                      (refine wpAnyH_take (i := 17) (oi := ?oi_1_17) (v := ?v_1_17) ?ho_1_17 ?hs_1_17 ?hf_1_17 ?hr_1_17 ?hQ_1_17 ?hy_1_17 ?hS_1_17 ?rest_1_17; (case hr_1_17 => kernel_rfl); (case hf_1_17 => kernel_rfl); (case hs_1_17 => kernel_rfl); (case ho_1_17 => (simp only [List.getElem?_toArray, List.getElem?_cons_succ, List.getElem?_cons_zero]; rfl)); (case hS_1_17 => assumption); (case hQ_1_17 => exact fun _ _ _ h => h); (case hy_1_17 => (refine Or.inl ⟨by rfl, ?_⟩; (intro w hSw; (try dsimp only at hSw); go_simp) <;> with_reducible rfl)); (try simp only [Act.put, List.setIfInBounds_toArray, List.set_cons_zero, List.set_cons_succ]))
                      (refine wpAnyH_take (i := 18) (oi := ?oi_1_18) (v := ?v_1_18) ?ho_1_18 ?hs_1_18 ?hf_1_18 ?hr_1_18 ?hQ_1_18 ?hy_1_18 ?hS_1_18 ?rest_1_18; (case hr_1_18 => kernel_rfl); (case hf_1_18 => kernel_rfl); (case hs_1_18 => kernel_rfl); (case ho_1_18 => (simp only [List.getElem?_toArray, List.getElem?_cons_succ, List.getElem?_cons_zero]; rfl)); (case hS_1_18 => assumption); (case hQ_1_18 => exact fun _ _ _ h => h); (case hy_1_18 => (refine Or.inl ⟨by rfl, ?_⟩; (intro w hSw; (try dsimp only at hSw); go_simp) <;> with_reducible rfl)); (try simp only [Act.put, List.setIfInBounds_toArray, List.set_cons_zero, List.set_cons_succ]))
                      (refine wpAnyH_take (i := 19) (oi := ?oi_1_19) (v := ?v_1_19) ?ho_1_19 ?hs_1_19 ?hf_1_19 ?hr_1_19 ?hQ_1_19 ?hy_1_19 ?hS_1_19 ?rest_1_19; (case hr_1_19 => kernel_rfl); (case hf_1_19 => kernel_rfl); (case hs_1_19 => kernel_rfl); (case ho_1_19 => (simp only [List.getElem?_toArray, List.getElem?_cons_succ, List.getElem?_cons_zero]; rfl)); (case hS_1_19 => assumption); (case hQ_1_19 => exact fun _ _ _ h => h); (case hy_1_19 => (refine Or.inl ⟨by rfl, ?_⟩; (intro w hSw; (try dsimp only at hSw); go_simp) <;> with_reducible rfl)); (try simp only [Act.put, List.setIfInBounds_toArray, List.set_cons_zero, List.set_cons_succ]))
                      (refine wpAnyH_take (i := 20) (oi := ?oi_1_20) (v := ?v_1_20) ?ho_1_20 ?hs_1_20 ?hf_1_20 ?hr_1_20 ?hQ_1_20 ?hy_1_20 ?hS_1_20 ?rest_1_20; (case hr_1_20 => kernel_rfl); (case hf_1_20 => kernel_rfl); (case hs_1_20 => kernel_rfl); (case ho_1_20 => (simp only [List.getElem?_toArray, List.getElem?_cons_succ, List.getElem?_cons_zero]; rfl)); (case hS_1_20 => assumption); (case hQ_1_20 => exact fun _ _ _ h => h); (case hy_1_20 => (refine Or.inl ⟨by rfl, ?_⟩; (intro w hSw; (try dsimp only at hSw); go_simp) <;> with_reducible rfl)); (try simp only [Act.put, List.setIfInBounds_toArray, List.set_cons_zero, List.set_cons_succ]))
                      (refine wpAnyH_take (i := 21) (oi := ?oi_1_21) (v := ?v_1_21) ?ho_1_21 ?hs_1_21 ?hf_1_21 ?hr_1_21 ?hQ_1_21 ?hy_1_21 ?hS_1_21 ?rest_1_21; (case hr_1_21 => kernel_rfl); (case hf_1_21 => kernel_rfl); (case hs_1_21 => kernel_rfl); (case ho_1_21 => (simp only [List.getElem?_toArray, List.getElem?_cons_succ, List.getElem?_cons_zero]; rfl)); (case hS_1_21 => assumption); (case hQ_1_21 => exact fun _ _ _ h => h); (case hy_1_21 => (refine Or.inl ⟨by rfl, ?_⟩; (intro w hSw; (try dsimp only at hSw); go_simp) <;> with_reducible rfl)); (try simp only [Act.put, List.setIfInBounds_toArray, List.set_cons_zero, List.set_cons_succ]))
                      (refine wpAnyH_take (i := 22) (oi := ?oi_1_22) (v := ?v_1_22) ?ho_1_22 ?hs_1_22 ?hf_1_22 ?hr_1_22 ?hQ_1_22 ?hy_1_22 ?hS_1_22 ?rest_1_22; (case hr_1_22 => kernel_rfl); (case hf_1_22 => kernel_rfl); (case hs_1_22 => kernel_rfl); (case ho_1_22 => (simp only [List.getElem?_toArray, List.getElem?_cons_succ, List.getElem?_cons_zero]; rfl)); (case hS_1_22 => assumption); (case hQ_1_22 => exact fun _ _ _ h => h); (case hy_1_22 => (refine Or.inl ⟨by rfl, ?_⟩; (intro w hSw; (try dsimp only at hSw); go_simp) <;> with_reducible rfl)); (try simp only [Act.put, List.setIfInBounds_toArray, List.set_cons_zero, List.set_cons_succ]))
                      (refine wpAnyH_take (i := 23) (oi := ?oi_1_23) (v := ?v_1_23) ?ho_1_23 ?hs_1_23 ?hf_1_23 ?hr_1_23 ?hQ_1_23 ?hy_1_23 ?hS_1_23 ?rest_1_23; (case hr_1_23 => kernel_rfl); (case hf_1_23 => kernel_rfl); (case hs_1_23 => kernel_rfl); (case ho_1_23 => (simp only [List.getElem?_toArray, List.getElem?_cons_succ, List.getElem?_cons_zero]; rfl)); (case hS_1_23 => assumption); (case hQ_1_23 => exact fun _ _ _ h => h); (case hy_1_23 => (refine Or.inl ⟨by rfl, ?_⟩; (intro w hSw; (try dsimp only at hSw); go_simp) <;> with_reducible rfl)); (try simp only [Act.put, List.setIfInBounds_toArray, List.set_cons_zero, List.set_cons_succ]))
                      (refine wpAnyH_take (i := 24) (oi := ?oi_1_24) (v := ?v_1_24) ?ho_1_24 ?hs_1_24 ?hf_1_24 ?hr_1_24 ?hQ_1_24 ?hy_1_24 ?hS_1_24 ?rest_1_24; (case hr_1_24 => kernel_rfl); (case hf_1_24 => kernel_rfl); (case hs_1_24 => kernel_rfl); (case ho_1_24 => (simp only [List.getElem?_toArray, List.getElem?_cons_succ, List.getElem?_cons_zero]; rfl)); (case hS_1_24 => assumption); (case hQ_1_24 => exact fun _ _ _ h => h); (case hy_1_24 => (refine Or.inl ⟨by rfl, ?_⟩; (intro w hSw; (try dsimp only at hSw); go_simp) <;> with_reducible rfl)); (try simp only [Act.put, List.setIfInBounds_toArray, List.set_cons_zero, List.set_cons_succ]))
                      (refine wpAnyH_take (i := 25) (oi := ?oi_1_25) (v := ?v_1_25) ?ho_1_25 ?hs_1_25 ?hf_1_25 ?hr_1_25 ?hQ_1_25 ?hy_1_25 ?hS_1_25 ?rest_1_25; (case hr_1_25 => kernel_rfl); (case hf_1_25 => kernel_rfl); (case hs_1_25 => kernel_rfl); (case ho_1_25 => (simp only [List.getElem?_toArray, List.getElem?_cons_succ, List.getElem?_cons_zero]; rfl)); (case hS_1_25 => assumption); (case hQ_1_25 => exact fun _ _ _ h => h); (case hy_1_25 => (refine Or.inl ⟨by rfl, ?_⟩; (intro w hSw; (try dsimp only at hSw); go_simp) <;> with_reducible rfl)); (try simp only [Act.put, List.setIfInBounds_toArray, List.set_cons_zero, List.set_cons_succ]))
                      (refine wpAnyH_take (i := 26) (oi := ?oi_1_26) (v := undef) ?ho_1_26 ?hs_1_26 ?hf_1_26 ?hr_1_26 ?hQ_1_26 ?hy_1_26 ?hS_1_26 ?rest_1_26; (case hr_1_26 => kernel_rfl); (case hf_1_26 => kernel_rfl); (case hs_1_26 => kernel_rfl); (case ho_1_26 => (simp only [List.getElem?_toArray, List.getElem?_cons_succ, List.getElem?_cons_zero]; rfl)); (case hS_1_26 => assumption); (case hQ_1_26 => exact fun _ _ _ h => h); (case hy_1_26 => exact Or.inr ⟨by rfl, rfl⟩); (try simp only [Act.put, List.setIfInBounds_toArray, List.set_cons_zero, List.set_cons_succ]))
                      (refine wpAnyH_take (i := 27) (oi := ?oi_1_27) (v := undef) ?ho_1_27 ?hs_1_27 ?hf_1_27 ?hr_1_27 ?hQ_1_27 ?hy_1_27 ?hS_1_27 ?rest_1_27; (case hr_1_27 => kernel_rfl); (case hf_1_27 => kernel_rfl); (case hs_1_27 => kernel_rfl); (case ho_1_27 => (simp only [List.getElem?_toArray, List.getElem?_cons_succ, List.getElem?_cons_zero]; rfl)); (case hS_1_27 => assumption); (case hQ_1_27 => exact fun _ _ _ h => h); (case hy_1_27 => exact Or.inr ⟨by rfl, rfl⟩); (try simp only [Act.put, List.setIfInBounds_toArray, List.set_cons_zero, List.set_cons_succ]))
                      (refine wpAnyH_take (i := 28) (oi := ?oi_1_28) (v := undef) ?ho_1_28 ?hs_1_28 ?hf_1_28 ?hr_1_28 ?hQ_1_28 ?hy_1_28 ?hS_1_28 ?rest_1_28; (case hr_1_28 => kernel_rfl); (case hf_1_28 => kernel_rfl); (case hs_1_28 => kernel_rfl); (case ho_1_28 => (simp only [List.getElem?_toArray, List.getElem?_cons_succ, List.getElem?_cons_zero]; rfl)); (case hS_1_28 => assumption); (case hQ_1_28 => exact fun _ _ _ h => h); (case hy_1_28 => exact Or.inr ⟨by rfl, rfl⟩); (try simp only [Act.put, List.setIfInBounds_toArray, List.set_cons_zero, List.set_cons_succ]))
                      (refine wpAnyH_take (i := 29) (oi := ?oi_1_29) (v := undef) ?ho_1_29 ?hs_1_29 ?hf_1_29 ?hr_1_29 ?hQ_1_29 ?hy_1_29 ?hS_1_29 ?rest_1_29; (case hr_1_29 => kernel_rfl); (case hf_1_29 => kernel_rfl); (case hs_1_29 => kernel_rfl); (case ho_1_29 => (simp only [List.getElem?_toArray, List.getElem?_cons_succ, List.getElem?_cons_zero]; rfl)); (case hS_1_29 => assumption); (case hQ_1_29 => exact fun _ _ _ h => h); (case hy_1_29 => exact Or.inr ⟨by rfl, rfl⟩); (try simp only [Act.put, List.setIfInBounds_toArray, List.set_cons_zero, List.set_cons_succ]))
                      (refine wpAnyH_take (i := 30) (oi := ?oi_1_30) (v := undef) ?ho_1_30 ?hs_1_30 ?hf_1_30 ?hr_1_30 ?hQ_1_30 ?hy_1_30 ?hS_1_30 ?rest_1_30; (case hr_1_30 => kernel_rfl); (case hf_1_30 => kernel_rfl); (case hs_1_30 => kernel_rfl); (case ho_1_30 => (simp only [List.getElem?_toArray, List.getElem?_cons_succ, List.getElem?_cons_zero]; rfl)); (case hS_1_30 => assumption); (case hQ_1_30 => exact fun _ _ _ h => h); (case hy_1_30 => exact Or.inr ⟨by rfl, rfl⟩); (try simp only [Act.put, List.setIfInBounds_toArray, List.set_cons_zero, List.set_cons_succ]))
                      (refine wpAnyH_take (i := 31) (oi := ?oi_1_31) (v := undef) ?ho_1_31 ?hs_1_31 ?hf_1_31 ?hr_1_31 ?hQ_1_31 ?hy_1_31 ?hS_1_31 ?rest_1_31; (case hr_1_31 => kernel_rfl); (case hf_1_31 => kernel_rfl); (case hs_1_31 => kernel_rfl); (case ho_1_31 => (simp only [List.getElem?_toArray, List.getElem?_cons_succ, List.getElem?_cons_zero]; rfl)); (case hS_1_31 => assumption); (case hQ_1_31 => exact fun _ _ _ h => h); (case hy_1_31 => exact Or.inr ⟨by rfl, rfl⟩); (try simp only [Act.put, List.setIfInBounds_toArray, List.set_cons_zero, List.set_cons_succ]))
                      (refine wpAnyH_take (i := 32) (oi := ?oi_1_32) (v := undef) ?ho_1_32 ?hs_1_32 ?hf_1_32 ?hr_1_32 ?hQ_1_32 ?hy_1_32 ?hS_1_32 ?rest_1_32; (case hr_1_32 => kernel_rfl); (case hf_1_32 => kernel_rfl); (case hs_1_32 => kernel_rfl); (case ho_1_32 => (simp only [List.getElem?_toArray, List.getElem?_cons_succ, List.getElem?_cons_zero]; rfl)); (case hS_1_32 => assumption); (case hQ_1_32 => exact fun _ _ _ h => h); (case hy_1_32 => exact Or.inr ⟨by rfl, rfl⟩); (try simp only [Act.put, List.setIfInBounds_toArray, List.set_cons_zero, List.set_cons_succ]))
                      (refine wpAnyH_take (i := 33) (oi := ?oi_1_33) (v := undef) ?ho_1_33 ?hs_1_33 ?hf_1_33 ?hr_1_33 ?hQ_1_33 ?hy_1_33 ?hS_1_33 ?rest_1_33; (case hr_1_33 => kernel_rfl); (case hf_1_33 => kernel_rfl); (case hs_1_33 => kernel_rfl); (case ho_1_33 => (simp only [List.getElem?_toArray, List.getElem?_cons_succ, List.getElem?_cons_zero]; rfl)); (case hS_1_33 => assumption); (case hQ_1_33 => exact fun _ _ _ h => h); (case hy_1_33 => exact Or.inr ⟨by rfl, rfl⟩); (try simp only [Act.put, List.setIfInBounds_toArray, List.set_cons_zero, List.set_cons_succ]))
                      (refine wpAnyH_take (i := 34) (oi := ?oi_1_34) (v := undef) ?ho_1_34 ?hs_1_34 ?hf_1_34 ?hr_1_34 ?hQ_1_34 ?hy_1_34 ?hS_1_34 ?rest_1_34; (case hr_1_34 => kernel_rfl); (case hf_1_34 => kernel_rfl); (case hs_1_34 => kernel_rfl); (case ho_1_34 => (simp only [List.getElem?_toArray, List.getElem?_cons_succ, List.getElem?_cons_zero]; rfl)); (case hS_1_34 => assumption); (case hQ_1_34 => exact fun _ _ _ h => h); (case hy_1_34 => exact Or.inr ⟨by rfl, rfl⟩); (try simp only [Act.put, List.setIfInBounds_toArray, List.set_cons_zero, List.set_cons_succ]))
                      (refine wpAnyH_take (i := 35) (oi := ?oi_1_35) (v := undef) ?ho_1_35 ?hs_1_35 ?hf_1_35 ?hr_1_35 ?hQ_1_35 ?hy_1_35 ?hS_1_35 ?rest_1_35; (case hr_1_35 => kernel_rfl); (case hf_1_35 => kernel_rfl); (case hs_1_35 => kernel_rfl); (case ho_1_35 => (simp only [List.getElem?_toArray, List.getElem?_cons_succ, List.getElem?_cons_zero]; rfl)); (case hS_1_35 => assumption); (case hQ_1_35 => exact fun _ _ _ h => h); (case hy_1_35 => exact Or.inr ⟨by rfl, rfl⟩); (try simp only [Act.put, List.setIfInBounds_toArray, List.set_cons_zero, List.set_cons_succ]))
                      (refine wpAnyH_take (i := 36) (oi := ?oi_1_36) (v := undef) ?ho_1_36 ?hs_1_36 ?hf_1_36 ?hr_1_36 ?hQ_1_36 ?hy_1_36 ?hS_1_36 ?rest_1_36; (case hr_1_36 => kernel_rfl); (case hf_1_36 => kernel_rfl); (case hs_1_36 => kernel_rfl); (case ho_1_36 => (simp only [List.getElem?_toArray, List.getElem?_cons_succ, List.getElem?_cons_zero]; rfl)); (case hS_1_36 => assumption); (case hQ_1_36 => exact fun _ _ _ h => h); (case hy_1_36 => exact Or.inr ⟨by rfl, rfl⟩); (try simp only [Act.put, List.setIfInBounds_toArray, List.set_cons_zero, List.set_cons_succ]))
                      (refine wpAnyH_take (i := 37) (oi := ?oi_1_37) (v := ?v_1_37) ?ho_1_37 ?hs_1_37 ?hf_1_37 ?hr_1_37 ?hQ_1_37 ?hy_1_37 ?hS_1_37 ?rest_1_37; (case hr_1_37 => kernel_rfl); (case hf_1_37 => kernel_rfl); (case hs_1_37 => kernel_rfl); (case ho_1_37 => (simp only [List.getElem?_toArray, List.getElem?_cons_succ, List.getElem?_cons_zero]; rfl)); (case hS_1_37 => assumption); (case hQ_1_37 => exact fun _ _ _ h => h); (case hy_1_37 => (refine Or.inl ⟨by rfl, ?_⟩; (intro w hSw; (try dsimp only at hSw); go_simp) <;> with_reducible rfl)); (try simp only [Act.put, List.setIfInBounds_toArray, List.set_cons_zero, List.set_cons_succ]))
                      (refine wpAnyH_take (i := 38) (oi := ?oi_1_38) (v := ?v_1_38) ?ho_1_38 ?hs_1_38 ?hf_1_38 ?hr_1_38 ?hQ_1_38 ?hy_1_38 ?hS_1_38 ?rest_1_38; (case hr_1_38 => kernel_rfl); (case hf_1_38 => kernel_rfl); (case hs_1_38 => kernel_rfl); (case ho_1_38 => (simp only [List.getElem?_toArray, List.getElem?_cons_succ, List.getElem?_cons_zero]; rfl)); (case hS_1_38 => assumption); (case hQ_1_38 => exact fun _ _ _ h => h); (case hy_1_38 => (refine Or.inl ⟨by rfl, ?_⟩; (intro w hSw; (try dsimp only at hSw); go_simp) <;> with_reducible rfl)); (try simp only [Act.put, List.setIfInBounds_toArray, List.set_cons_zero, List.set_cons_succ]))
                      refine wpAnyH_done (by kernel_rfl) ?_ _
                      go_wp2_with fail
                      go_roundw
                      case rel => exact ⟨j + 1, by go_num, by omega, huq.then_drew⟩
                      case measure => simp [intOf]; omega
                    · obtain ⟨p, hp⟩ : ∃ p, j = p + 1 := ⟨j - 1, by omega⟩
                      have e1 := huq.cell (hu1.cell (hec.out p (by omega)) fun h => h) fun h => h
                      rw [← hp] at e1
                      generalize sumN (ls.take j) = S0 at r0 e1
                      have hni : (0 : Int) < (j : Int) := by omega
                      have hni2 : 0 < j := by omega
                      have hsub : (j : Int) - 1 = (p : Int) := by omega
                      have hwp : IntKind.i64.wrap (p : Int) = (p : Int) := IntWalk.i64_in _ ⟨by omega, by omega⟩
                      have hp0 : (0 : Int) ≤ (p : Int) := by omega
                      have hpk : (p : Int) < (k : Int) := by omega
                      replace hp := Lib.hid hp
                      clear hjp
                      go_wp2_with fail
                      refine wp_region_held_drew (S := (fun w' => w'.cell? ⟨gj, oj + j * 3 + 2, none⟩ = some (.string ⟨s.toArray⟩) ∧ w'.cell? ⟨gl, off + j, none⟩ = some (.string ⟨s.toArray⟩) ∧ w'.cell? ⟨gj, oj + j * 3 + 1, none⟩ = some (.int .i64 (sq + (S1 : Int))) ∧ w'.cell? ⟨gE, j, none⟩ = some (.int .i64 (sq + (S1 : Int))) ∧ w'.cell? ⟨gj, oj + j * 3, none⟩ = some (.int .i64 (sq + (S0 : Int))) ∧ w'.cell? ⟨gE, p, none⟩ = some (.int .i64 (sq + (S0 : Int))))) (by kernel_rfl) (by (try dsimp only); exact ⟨r2, x0, r1, e0, r0, e1⟩) (fun hHeld => ?_)
                      (refine wpAnyH_take (i := 0) (oi := ?oi_2_0) (v := ?v_2_0) ?ho_2_0 ?hs_2_0 ?hf_2_0 ?hr_2_0 ?hQ_2_0 ?hy_2_0 ?hS_2_0 ?rest_2_0; (case hr_2_0 => kernel_rfl); (case hf_2_0 => kernel_rfl); (case hs_2_0 => kernel_rfl); (case ho_2_0 => (simp only [List.getElem?_toArray, List.getElem?_cons_succ, List.getElem?_cons_zero]; rfl)); (case hS_2_0 => assumption); (case hQ_2_0 => exact fun _ _ _ h => h); (case hy_2_0 => (refine Or.inl ⟨by rfl, ?_⟩; (intro w hSw; (try dsimp only at hSw); go_simp) <;> with_reducible rfl)); (try simp only [Act.put, List.setIfInBounds_toArray, List.set_cons_zero, List.set_cons_succ]))
                      (refine wpAnyH_take (i := 1) (oi := ?oi_2_1) (v := ?v_2_1) ?ho_2_1 ?hs_2_1 ?hf_2_1 ?hr_2_1 ?hQ_2_1 ?hy_2_1 ?hS_2_1 ?rest_2_1; (case hr_2_1 => kernel_rfl); (case hf_2_1 => kernel_rfl); (case hs_2_1 => kernel_rfl); (case ho_2_1 => (simp only [List.getElem?_toArray, List.getElem?_cons_succ, List.getElem?_cons_zero]; rfl)); (case hS_2_1 => assumption); (case hQ_2_1 => exact fun _ _ _ h => h); (case hy_2_1 => (refine Or.inl ⟨by rfl, ?_⟩; (intro w hSw; (try dsimp only at hSw); go_simp) <;> with_reducible rfl)); (try simp only [Act.put, List.setIfInBounds_toArray, List.set_cons_zero, List.set_cons_succ]))
                      (refine wpAnyH_take (i := 2) (oi := ?oi_2_2) (v := ?v_2_2) ?ho_2_2 ?hs_2_2 ?hf_2_2 ?hr_2_2 ?hQ_2_2 ?hy_2_2 ?hS_2_2 ?rest_2_2; (case hr_2_2 => kernel_rfl); (case hf_2_2 => kernel_rfl); (case hs_2_2 => kernel_rfl); (case ho_2_2 => (simp only [List.getElem?_toArray, List.getElem?_cons_succ, List.getElem?_cons_zero]; rfl)); (case hS_2_2 => assumption); (case hQ_2_2 => exact fun _ _ _ h => h); (case hy_2_2 => (refine Or.inl ⟨by rfl, ?_⟩; (intro w hSw; (try dsimp only at hSw); go_simp) <;> with_reducible rfl)); (try simp only [Act.put, List.setIfInBounds_toArray, List.set_cons_zero, List.set_cons_succ]))
                      (refine wpAnyH_take (i := 3) (oi := ?oi_2_3) (v := ?v_2_3) ?ho_2_3 ?hs_2_3 ?hf_2_3 ?hr_2_3 ?hQ_2_3 ?hy_2_3 ?hS_2_3 ?rest_2_3; (case hr_2_3 => kernel_rfl); (case hf_2_3 => kernel_rfl); (case hs_2_3 => kernel_rfl); (case ho_2_3 => (simp only [List.getElem?_toArray, List.getElem?_cons_succ, List.getElem?_cons_zero]; rfl)); (case hS_2_3 => assumption); (case hQ_2_3 => exact fun _ _ _ h => h); (case hy_2_3 => (refine Or.inl ⟨by rfl, ?_⟩; (intro w hSw; (try dsimp only at hSw); go_simp) <;> with_reducible rfl)); (try simp only [Act.put, List.setIfInBounds_toArray, List.set_cons_zero, List.set_cons_succ]))
                      (refine wpAnyH_take (i := 4) (oi := ?oi_2_4) (v := ?v_2_4) ?ho_2_4 ?hs_2_4 ?hf_2_4 ?hr_2_4 ?hQ_2_4 ?hy_2_4 ?hS_2_4 ?rest_2_4; (case hr_2_4 => kernel_rfl); (case hf_2_4 => kernel_rfl); (case hs_2_4 => kernel_rfl); (case ho_2_4 => (simp only [List.getElem?_toArray, List.getElem?_cons_succ, List.getElem?_cons_zero]; rfl)); (case hS_2_4 => assumption); (case hQ_2_4 => exact fun _ _ _ h => h); (case hy_2_4 => (refine Or.inl ⟨by rfl, ?_⟩; (intro w hSw; (try dsimp only at hSw); go_simp) <;> with_reducible rfl)); (try simp only [Act.put, List.setIfInBounds_toArray, List.set_cons_zero, List.set_cons_succ]))
                      (refine wpAnyH_take (i := 5) (oi := ?oi_2_5) (v := ?v_2_5) ?ho_2_5 ?hs_2_5 ?hf_2_5 ?hr_2_5 ?hQ_2_5 ?hy_2_5 ?hS_2_5 ?rest_2_5; (case hr_2_5 => kernel_rfl); (case hf_2_5 => kernel_rfl); (case hs_2_5 => kernel_rfl); (case ho_2_5 => (simp only [List.getElem?_toArray, List.getElem?_cons_succ, List.getElem?_cons_zero]; rfl)); (case hS_2_5 => assumption); (case hQ_2_5 => exact fun _ _ _ h => h); (case hy_2_5 => (refine Or.inl ⟨by rfl, ?_⟩; (intro w hSw; (try dsimp only at hSw); go_simp) <;> with_reducible rfl)); (try simp only [Act.put, List.setIfInBounds_toArray, List.set_cons_zero, List.set_cons_succ]))
                      (refine wpAnyH_take (i := 6) (oi := ?oi_2_6) (v := ?v_2_6) ?ho_2_6 ?hs_2_6 ?hf_2_6 ?hr_2_6 ?hQ_2_6 ?hy_2_6 ?hS_2_6 ?rest_2_6; (case hr_2_6 => kernel_rfl); (case hf_2_6 => kernel_rfl); (case hs_2_6 => kernel_rfl); (case ho_2_6 => (simp only [List.getElem?_toArray, List.getElem?_cons_succ, List.getElem?_cons_zero]; rfl)); (case hS_2_6 => assumption); (case hQ_2_6 => exact fun _ _ _ h => h); (case hy_2_6 => (refine Or.inl ⟨by rfl, ?_⟩; (intro w hSw; (try dsimp only at hSw); go_simp) <;> with_reducible rfl)); (try simp only [Act.put, List.setIfInBounds_toArray, List.set_cons_zero, List.set_cons_succ]))
                      (refine wpAnyH_take (i := 7) (oi := ?oi_2_7) (v := ?v_2_7) ?ho_2_7 ?hs_2_7 ?hf_2_7 ?hr_2_7 ?hQ_2_7 ?hy_2_7 ?hS_2_7 ?rest_2_7; (case hr_2_7 => kernel_rfl); (case hf_2_7 => kernel_rfl); (case hs_2_7 => kernel_rfl); (case ho_2_7 => (simp only [List.getElem?_toArray, List.getElem?_cons_succ, List.getElem?_cons_zero]; rfl)); (case hS_2_7 => assumption); (case hQ_2_7 => exact fun _ _ _ h => h); (case hy_2_7 => (refine Or.inl ⟨by rfl, ?_⟩; (intro w hSw; (try dsimp only at hSw); go_simp) <;> with_reducible rfl)); (try simp only [Act.put, List.setIfInBounds_toArray, List.set_cons_zero, List.set_cons_succ]))
                      (refine wpAnyH_take (i := 8) (oi := ?oi_2_8) (v := ?v_2_8) ?ho_2_8 ?hs_2_8 ?hf_2_8 ?hr_2_8 ?hQ_2_8 ?hy_2_8 ?hS_2_8 ?rest_2_8; (case hr_2_8 => kernel_rfl); (case hf_2_8 => kernel_rfl); (case hs_2_8 => kernel_rfl); (case ho_2_8 => (simp only [List.getElem?_toArray, List.getElem?_cons_succ, List.getElem?_cons_zero]; rfl)); (case hS_2_8 => assumption); (case hQ_2_8 => exact fun _ _ _ h => h); (case hy_2_8 => (refine Or.inl ⟨by rfl, ?_⟩; (intro w hSw; (try dsimp only at hSw); go_simp) <;> with_reducible rfl)); (try simp only [Act.put, List.setIfInBounds_toArray, List.set_cons_zero, List.set_cons_succ]))
                      (refine wpAnyH_take (i := 9) (oi := ?oi_2_9) (v := ?v_2_9) ?ho_2_9 ?hs_2_9 ?hf_2_9 ?hr_2_9 ?hQ_2_9 ?hy_2_9 ?hS_2_9 ?rest_2_9; (case hr_2_9 => kernel_rfl); (case hf_2_9 => kernel_rfl); (case hs_2_9 => kernel_rfl); (case ho_2_9 => (simp only [List.getElem?_toArray, List.getElem?_cons_succ, List.getElem?_cons_zero]; rfl)); (case hS_2_9 => assumption); (case hQ_2_9 => exact fun _ _ _ h => h); (case hy_2_9 => (refine Or.inl ⟨by rfl, ?_⟩; (intro w hSw; (try dsimp only at hSw); go_simp) <;> with_reducible rfl)); (try simp only [Act.put, List.setIfInBounds_toArray, List.set_cons_zero, List.set_cons_succ]))
                      (refine wpAnyH_take (i := 10) (oi := ?oi_2_10) (v := ?v_2_10) ?ho_2_10 ?hs_2_10 ?hf_2_10 ?hr_2_10 ?hQ_2_10 ?hy_2_10 ?hS_2_10 ?rest_2_10; (case hr_2_10 => kernel_rfl); (case hf_2_10 => kernel_rfl); (case hs_2_10 => kernel_rfl); (case ho_2_10 => (simp only [List.getElem?_toArray, List.getElem?_cons_succ, List.getElem?_cons_zero]; rfl)); (case hS_2_10 => assumption); (case hQ_2_10 => exact fun _ _ _ h => h); (case hy_2_10 => (refine Or.inl ⟨by rfl, ?_⟩; (intro w hSw; (try dsimp only at hSw); go_simp) <;> with_reducible rfl)); (try simp only [Act.put, List.setIfInBounds_toArray, List.set_cons_zero, List.set_cons_succ]))
                      (refine wpAnyH_take (i := 11) (oi := ?oi_2_11) (v := ?v_2_11) ?ho_2_11 ?hs_2_11 ?hf_2_11 ?hr_2_11 ?hQ_2_11 ?hy_2_11 ?hS_2_11 ?rest_2_11; (case hr_2_11 => kernel_rfl); (case hf_2_11 => kernel_rfl); (case hs_2_11 => kernel_rfl); (case ho_2_11 => (simp only [List.getElem?_toArray, List.getElem?_cons_succ, List.getElem?_cons_zero]; rfl)); (case hS_2_11 => assumption); (case hQ_2_11 => exact fun _ _ _ h => h); (case hy_2_11 => (refine Or.inl ⟨by rfl, ?_⟩; (intro w hSw; (try dsimp only at hSw); go_simp) <;> with_reducible rfl)); (try simp only [Act.put, List.setIfInBounds_toArray, List.set_cons_zero, List.set_cons_succ]))
                      (refine wpAnyH_take (i := 12) (oi := ?oi_2_12) (v := ?v_2_12) ?ho_2_12 ?hs_2_12 ?hf_2_12 ?hr_2_12 ?hQ_2_12 ?hy_2_12 ?hS_2_12 ?rest_2_12; (case hr_2_12 => kernel_rfl); (case hf_2_12 => kernel_rfl); (case hs_2_12 => kernel_rfl); (case ho_2_12 => (simp only [List.getElem?_toArray, List.getElem?_cons_succ, List.getElem?_cons_zero]; rfl)); (case hS_2_12 => assumption); (case hQ_2_12 => exact fun _ _ _ h => h); (case hy_2_12 => (refine Or.inl ⟨by rfl, ?_⟩; (intro w hSw; (try dsimp only at hSw); go_simp) <;> with_reducible rfl)); (try simp only [Act.put, List.setIfInBounds_toArray, List.set_cons_zero, List.set_cons_succ]))
                      (refine wpAnyH_take (i := 13) (oi := ?oi_2_13) (v := ?v_2_13) ?ho_2_13 ?hs_2_13 ?hf_2_13 ?hr_2_13 ?hQ_2_13 ?hy_2_13 ?hS_2_13 ?rest_2_13; (case hr_2_13 => kernel_rfl); (case hf_2_13 => kernel_rfl); (case hs_2_13 => kernel_rfl); (case ho_2_13 => (simp only [List.getElem?_toArray, List.getElem?_cons_succ, List.getElem?_cons_zero]; rfl)); (case hS_2_13 => assumption); (case hQ_2_13 => exact fun _ _ _ h => h); (case hy_2_13 => (refine Or.inl ⟨by rfl, ?_⟩; (intro w hSw; (try dsimp only at hSw); go_simp) <;> with_reducible rfl)); (try simp only [Act.put, List.setIfInBounds_toArray, List.set_cons_zero, List.set_cons_succ]))
                      (refine wpAnyH_take (i := 14) (oi := ?oi_2_14) (v := ?v_2_14) ?ho_2_14 ?hs_2_14 ?hf_2_14 ?hr_2_14 ?hQ_2_14 ?hy_2_14 ?hS_2_14 ?rest_2_14; (case hr_2_14 => kernel_rfl); (case hf_2_14 => kernel_rfl); (case hs_2_14 => kernel_rfl); (case ho_2_14 => (simp only [List.getElem?_toArray, List.getElem?_cons_succ, List.getElem?_cons_zero]; rfl)); (case hS_2_14 => assumption); (case hQ_2_14 => exact fun _ _ _ h => h); (case hy_2_14 => (refine Or.inl ⟨by rfl, ?_⟩; (intro w hSw; (try dsimp only at hSw); go_simp) <;> with_reducible rfl)); (try simp only [Act.put, List.setIfInBounds_toArray, List.set_cons_zero, List.set_cons_succ]))
                      (refine wpAnyH_take (i := 15) (oi := ?oi_2_15) (v := ?v_2_15) ?ho_2_15 ?hs_2_15 ?hf_2_15 ?hr_2_15 ?hQ_2_15 ?hy_2_15 ?hS_2_15 ?rest_2_15; (case hr_2_15 => kernel_rfl); (case hf_2_15 => kernel_rfl); (case hs_2_15 => kernel_rfl); (case ho_2_15 => (simp only [List.getElem?_toArray, List.getElem?_cons_succ, List.getElem?_cons_zero]; rfl)); (case hS_2_15 => assumption); (case hQ_2_15 => exact fun _ _ _ h => h); (case hy_2_15 => (refine Or.inl ⟨by rfl, ?_⟩; (intro w hSw; (try dsimp only at hSw); go_simp) <;> with_reducible rfl)); (try simp only [Act.put, List.setIfInBounds_toArray, List.set_cons_zero, List.set_cons_succ]))
                      (refine wpAnyH_take (i := 16) (oi := ?oi_2_16) (v := ?v_2_16) ?ho_2_16 ?hs_2_16 ?hf_2_16 ?hr_2_16 ?hQ_2_16 ?hy_2_16 ?hS_2_16 ?rest_2_16; (case hr_2_16 => kernel_rfl); (case hf_2_16 => kernel_rfl); (case hs_2_16 => kernel_rfl); (case ho_2_16 => (simp only [List.getElem?_toArray, List.getElem?_cons_succ, List.getElem?_cons_zero]; rfl)); (case hS_2_16 => assumption); (case hQ_2_16 => exact fun _ _ _ h => h); (case hy_2_16 => (refine Or.inl ⟨by rfl, ?_⟩; (intro w hSw; (try dsimp only at hSw); go_simp) <;> with_reducible rfl)); (try simp only [Act.put, List.setIfInBounds_toArray, List.set_cons_zero, List.set_cons_succ]))
                      (refine wpAnyH_take (i := 17) (oi := ?oi_2_17) (v := ?v_2_17) ?ho_2_17 ?hs_2_17 ?hf_2_17 ?hr_2_17 ?hQ_2_17 ?hy_2_17 ?hS_2_17 ?rest_2_17; (case hr_2_17 => kernel_rfl); (case hf_2_17 => kernel_rfl); (case hs_2_17 => kernel_rfl); (case ho_2_17 => (simp only [List.getElem?_toArray, List.getElem?_cons_succ, List.getElem?_cons_zero]; rfl)); (case hS_2_17 => assumption); (case hQ_2_17 => exact fun _ _ _ h => h); (case hy_2_17 => (refine Or.inl ⟨by rfl, ?_⟩; (intro w hSw; (try dsimp only at hSw); go_simp) <;> with_reducible rfl)); (try simp only [Act.put, List.setIfInBounds_toArray, List.set_cons_zero, List.set_cons_succ]))
                      (refine wpAnyH_take (i := 18) (oi := ?oi_2_18) (v := ?v_2_18) ?ho_2_18 ?hs_2_18 ?hf_2_18 ?hr_2_18 ?hQ_2_18 ?hy_2_18 ?hS_2_18 ?rest_2_18; (case hr_2_18 => kernel_rfl); (case hf_2_18 => kernel_rfl); (case hs_2_18 => kernel_rfl); (case ho_2_18 => (simp only [List.getElem?_toArray, List.getElem?_cons_succ, List.getElem?_cons_zero]; rfl)); (case hS_2_18 => assumption); (case hQ_2_18 => exact fun _ _ _ h => h); (case hy_2_18 => (refine Or.inl ⟨by rfl, ?_⟩; (intro w hSw; (try dsimp only at hSw); go_simp) <;> with_reducible rfl)); (try simp only [Act.put, List.setIfInBounds_toArray, List.set_cons_zero, List.set_cons_succ]))
                      (refine wpAnyH_take (i := 19) (oi := ?oi_2_19) (v := ?v_2_19) ?ho_2_19 ?hs_2_19 ?hf_2_19 ?hr_2_19 ?hQ_2_19 ?hy_2_19 ?hS_2_19 ?rest_2_19; (case hr_2_19 => kernel_rfl); (case hf_2_19 => kernel_rfl); (case hs_2_19 => kernel_rfl); (case ho_2_19 => (simp only [List.getElem?_toArray, List.getElem?_cons_succ, List.getElem?_cons_zero]; rfl)); (case hS_2_19 => assumption); (case hQ_2_19 => exact fun _ _ _ h => h); (case hy_2_19 => (refine Or.inl ⟨by rfl, ?_⟩; (intro w hSw; (try dsimp only at hSw); go_simp) <;> with_reducible rfl)); (try simp only [Act.put, List.setIfInBounds_toArray, List.set_cons_zero, List.set_cons_succ]))
                      (refine wpAnyH_take (i := 20) (oi := ?oi_2_20) (v := ?v_2_20) ?ho_2_20 ?hs_2_20 ?hf_2_20 ?hr_2_20 ?hQ_2_20 ?hy_2_20 ?hS_2_20 ?rest_2_20; (case hr_2_20 => kernel_rfl); (case hf_2_20 => kernel_rfl); (case hs_2_20 => kernel_rfl); (case ho_2_20 => (simp only [List.getElem?_toArray, List.getElem?_cons_succ, List.getElem?_cons_zero]; rfl)); (case hS_2_20 => assumption); (case hQ_2_20 => exact fun _ _ _ h => h); (case hy_2_20 => (refine Or.inl ⟨by rfl, ?_⟩; (intro w hSw; (try dsimp only at hSw); go_simp) <;> with_reducible rfl)); (try simp only [Act.put, List.setIfInBounds_toArray, List.set_cons_zero, List.set_cons_succ]))
                      (refine wpAnyH_take (i := 21) (oi := ?oi_2_21) (v := ?v_2_21) ?ho_2_21 ?hs_2_21 ?hf_2_21 ?hr_2_21 ?hQ_2_21 ?hy_2_21 ?hS_2_21 ?rest_2_21; (case hr_2_21 => kernel_rfl); (case hf_2_21 => kernel_rfl); (case hs_2_21 => kernel_rfl); (case ho_2_21 => (simp only [List.getElem?_toArray, List.getElem?_cons_succ, List.getElem?_cons_zero]; rfl)); (case hS_2_21 => assumption); (case hQ_2_21 => exact fun _ _ _ h => h); (case hy_2_21 => (refine Or.inl ⟨by rfl, ?_⟩; (intro w hSw; (try dsimp only at hSw); go_simp) <;> with_reducible rfl)); (try simp only [Act.put, List.setIfInBounds_toArray, List.set_cons_zero, List.set_cons_succ]))
                      (refine wpAnyH_take (i := 22) (oi := ?oi_2_22) (v := ?v_2_22) ?ho_2_22 ?hs_2_22 ?hf_2_22 ?hr_2_22 ?hQ_2_22 ?hy_2_22 ?hS_2_22 ?rest_2_22; (case hr_2_22 => kernel_rfl); (case hf_2_22 => kernel_rfl); (case hs_2_22 => kernel_rfl); (case ho_2_22 => (simp only [List.getElem?_toArray, List.getElem?_cons_succ, List.getElem?_cons_zero]; rfl)); (case hS_2_22 => assumption); (case hQ_2_22 => exact fun _ _ _ h => h); (case hy_2_22 => (refine Or.inl ⟨by rfl, ?_⟩; (intro w hSw; (try dsimp only at hSw); go_simp) <;> with_reducible rfl)); (try simp only [Act.put, List.setIfInBounds_toArray, List.set_cons_zero, List.set_cons_succ]))
                      (refine wpAnyH_take (i := 23) (oi := ?oi_2_23) (v := ?v_2_23) ?ho_2_23 ?hs_2_23 ?hf_2_23 ?hr_2_23 ?hQ_2_23 ?hy_2_23 ?hS_2_23 ?rest_2_23; (case hr_2_23 => kernel_rfl); (case hf_2_23 => kernel_rfl); (case hs_2_23 => kernel_rfl); (case ho_2_23 => (simp only [List.getElem?_toArray, List.getElem?_cons_succ, List.getElem?_cons_zero]; rfl)); (case hS_2_23 => assumption); (case hQ_2_23 => exact fun _ _ _ h => h); (case hy_2_23 => (refine Or.inl ⟨by rfl, ?_⟩; (intro w hSw; (try dsimp only at hSw); go_simp) <;> with_reducible rfl)); (try simp only [Act.put, List.setIfInBounds_toArray, List.set_cons_zero, List.set_cons_succ]))
                      (refine wpAnyH_take (i := 24) (oi := ?oi_2_24) (v := ?v_2_24) ?ho_2_24 ?hs_2_24 ?hf_2_24 ?hr_2_24 ?hQ_2_24 ?hy_2_24 ?hS_2_24 ?rest_2_24; (case hr_2_24 => kernel_rfl); (case hf_2_24 => kernel_rfl); (case hs_2_24 => kernel_rfl); (case ho_2_24 => (simp only [List.getElem?_toArray, List.getElem?_cons_succ, List.getElem?_cons_zero]; rfl)); (case hS_2_24 => assumption); (case hQ_2_24 => exact fun _ _ _ h => h); (case hy_2_24 => (refine Or.inl ⟨by rfl, ?_⟩; (intro w hSw; (try dsimp only at hSw); go_simp) <;> with_reducible rfl)); (try simp only [Act.put, List.setIfInBounds_toArray, List.set_cons_zero, List.set_cons_succ]))
                      (refine wpAnyH_take (i := 25) (oi := ?oi_2_25) (v := ?v_2_25) ?ho_2_25 ?hs_2_25 ?hf_2_25 ?hr_2_25 ?hQ_2_25 ?hy_2_25 ?hS_2_25 ?rest_2_25; (case hr_2_25 => kernel_rfl); (case hf_2_25 => kernel_rfl); (case hs_2_25 => kernel_rfl); (case ho_2_25 => (simp only [List.getElem?_toArray, List.getElem?_cons_succ, List.getElem?_cons_zero]; rfl)); (case hS_2_25 => assumption); (case hQ_2_25 => exact fun _ _ _ h => h); (case hy_2_25 => (refine Or.inl ⟨by rfl, ?_⟩; (intro w hSw; (try dsimp only at hSw); go_simp) <;> with_reducible rfl)); (try simp only [Act.put, List.setIfInBounds_toArray, List.set_cons_zero, List.set_cons_succ]))
                      (refine wpAnyH_take (i := 26) (oi := ?oi_2_26) (v := ?v_2_26) ?ho_2_26 ?hs_2_26 ?hf_2_26 ?hr_2_26 ?hQ_2_26 ?hy_2_26 ?hS_2_26 ?rest_2_26; (case hr_2_26 => kernel_rfl); (case hf_2_26 => kernel_rfl); (case hs_2_26 => kernel_rfl); (case ho_2_26 => (simp only [List.getElem?_toArray, List.getElem?_cons_succ, List.getElem?_cons_zero]; rfl)); (case hS_2_26 => assumption); (case hQ_2_26 => exact fun _ _ _ h => h); (case hy_2_26 => (refine Or.inl ⟨by rfl, ?_⟩; (intro w hSw; (try dsimp only at hSw); go_simp) <;> with_reducible rfl)); (try simp only [Act.put, List.setIfInBounds_toArray, List.set_cons_zero, List.set_cons_succ]))
                      (refine wpAnyH_take (i := 27) (oi := ?oi_2_27) (v := ?v_2_27) ?ho_2_27 ?hs_2_27 ?hf_2_27 ?hr_2_27 ?hQ_2_27 ?hy_2_27 ?hS_2_27 ?rest_2_27; (case hr_2_27 => kernel_rfl); (case hf_2_27 => kernel_rfl); (case hs_2_27 => kernel_rfl); (case ho_2_27 => (simp only [List.getElem?_toArray, List.getElem?_cons_succ, List.getElem?_cons_zero]; rfl)); (case hS_2_27 => assumption); (case hQ_2_27 => exact fun _ _ _ h => h); (case hy_2_27 => (refine Or.inl ⟨by rfl, ?_⟩; (intro w hSw; (try dsimp only at hSw); go_simp) <;> with_reducible rfl)); (try simp only [Act.put, List.setIfInBounds_toArray, List.set_cons_zero, List.set_cons_succ]))
                      (refine wpAnyH_take (i := 28) (oi := ?oi_2_28) (v := ?v_2_28) ?ho_2_28 ?hs_2_28 ?hf_2_28 ?hr_2_28 ?hQ_2_28 ?hy_2_28 ?hS_2_28 ?rest_2_28; (case hr_2_28 => kernel_rfl); (case hf_2_28 => kernel_rfl); (case hs_2_28 => kernel_rfl); (case ho_2_28 => (simp only [List.getElem?_toArray, List.getElem?_cons_succ, List.getElem?_cons_zero]; rfl)); (case hS_2_28 => assumption); (case hQ_2_28 => exact fun _ _ _ h => h); (case hy_2_28 => (refine Or.inl ⟨by rfl, ?_⟩; (intro w hSw; (try dsimp only at hSw); go_simp) <;> with_reducible rfl)); (try simp only [Act.put, List.setIfInBounds_toArray, List.set_cons_zero, List.set_cons_succ]))
                      (refine wpAnyH_take (i := 29) (oi := ?oi_2_29) (v := ?v_2_29) ?ho_2_29 ?hs_2_29 ?hf_2_29 ?hr_2_29 ?hQ_2_29 ?hy_2_29 ?hS_2_29 ?rest_2_29; (case hr_2_29 => kernel_rfl); (case hf_2_29 => kernel_rfl); (case hs_2_29 => kernel_rfl); (case ho_2_29 => (simp only [List.getElem?_toArray, List.getElem?_cons_succ, List.getElem?_cons_zero]; rfl)); (case hS_2_29 => assumption); (case hQ_2_29 => exact fun _ _ _ h => h); (case hy_2_29 => (refine Or.inl ⟨by rfl, ?_⟩; (intro w hSw; (try dsimp only at hSw); go_simp) <;> with_reducible rfl)); (try simp only [Act.put, List.setIfInBounds_toArray, List.set_cons_zero, List.set_cons_succ]))
                      (refine wpAnyH_take (i := 30) (oi := ?oi_2_30) (v := ?v_2_30) ?ho_2_30 ?hs_2_30 ?hf_2_30 ?hr_2_30 ?hQ_2_30 ?hy_2_30 ?hS_2_30 ?rest_2_30; (case hr_2_30 => kernel_rfl); (case hf_2_30 => kernel_rfl); (case hs_2_30 => kernel_rfl); (case ho_2_30 => (simp only [List.getElem?_toArray, List.getElem?_cons_succ, List.getElem?_cons_zero]; rfl)); (case hS_2_30 => assumption); (case hQ_2_30 => exact fun _ _ _ h => h); (case hy_2_30 => (refine Or.inl ⟨by rfl, ?_⟩; (intro w hSw; (try dsimp only at hSw); go_simp) <;> with_reducible rfl)); (try simp only [Act.put, List.setIfInBounds_toArray, List.set_cons_zero, List.set_cons_succ]))
                      (refine wpAnyH_take (i := 31) (oi := ?oi_2_31) (v := ?v_2_31) ?ho_2_31 ?hs_2_31 ?hf_2_31 ?hr_2_31 ?hQ_2_31 ?hy_2_31 ?hS_2_31 ?rest_2_31; (case hr_2_31 => kernel_rfl); (case hf_2_31 => kernel_rfl); (case hs_2_31 => kernel_rfl); (case ho_2_31 => (simp only [List.getElem?_toArray, List.getElem?_cons_succ, List.getElem?_cons_zero]; rfl)); (case hS_2_31 => assumption); (case hQ_2_31 => exact fun _ _ _ h => h); (case hy_2_31 => (refine Or.inl ⟨by rfl, ?_⟩; (intro w hSw; (try dsimp only at hSw); go_simp) <;> with_reducible rfl)); (try simp only [Act.put, List.setIfInBounds_toArray, List.set_cons_zero, List.set_cons_succ]))
                      (refine wpAnyH_take (i := 32) (oi := ?oi_2_32) (v := ?v_2_32) ?ho_2_32 ?hs_2_32 ?hf_2_32 ?hr_2_32 ?hQ_2_32 ?hy_2_32 ?hS_2_32 ?rest_2_32; (case hr_2_32 => kernel_rfl); (case hf_2_32 => kernel_rfl); (case hs_2_32 => kernel_rfl); (case ho_2_32 => (simp only [List.getElem?_toArray, List.getElem?_cons_succ, List.getElem?_cons_zero]; rfl)); (case hS_2_32 => assumption); (case hQ_2_32 => exact fun _ _ _ h => h); (case hy_2_32 => (refine Or.inl ⟨by rfl, ?_⟩; (intro w hSw; (try dsimp only at hSw); go_simp) <;> with_reducible rfl)); (try simp only [Act.put, List.setIfInBounds_toArray, List.set_cons_zero, List.set_cons_succ]))
                      (refine wpAnyH_take (i := 33) (oi := ?oi_2_33) (v := ?v_2_33) ?ho_2_33 ?hs_2_33 ?hf_2_33 ?hr_2_33 ?hQ_2_33 ?hy_2_33 ?hS_2_33 ?rest_2_33; (case hr_2_33 => kernel_rfl); (case hf_2_33 => kernel_rfl); (case hs_2_33 => kernel_rfl); (case ho_2_33 => (simp only [List.getElem?_toArray, List.getElem?_cons_succ, List.getElem?_cons_zero]; rfl)); (case hS_2_33 => assumption); (case hQ_2_33 => exact fun _ _ _ h => h); (case hy_2_33 => (refine Or.inl ⟨by rfl, ?_⟩; (intro w hSw; (try dsimp only at hSw); go_simp) <;> with_reducible rfl)); (try simp only [Act.put, List.setIfInBounds_toArray, List.set_cons_zero, List.set_cons_succ]))
                      (refine wpAnyH_take (i := 34) (oi := ?oi_2_34) (v := ?v_2_34) ?ho_2_34 ?hs_2_34 ?hf_2_34 ?hr_2_34 ?hQ_2_34 ?hy_2_34 ?hS_2_34 ?rest_2_34; (case hr_2_34 => kernel_rfl); (case hf_2_34 => kernel_rfl); (case hs_2_34 => kernel_rfl); (case ho_2_34 => (simp only [List.getElem?_toArray, List.getElem?_cons_succ, List.getElem?_cons_zero]; rfl)); (case hS_2_34 => assumption); (case hQ_2_34 => exact fun _ _ _ h => h); (case hy_2_34 => (refine Or.inl ⟨by rfl, ?_⟩; (intro w hSw; (try dsimp only at hSw); go_simp) <;> with_reducible rfl)); (try simp only [Act.put, List.setIfInBounds_toArray, List.set_cons_zero, List.set_cons_succ]))
                      (refine wpAnyH_take (i := 35) (oi := ?oi_2_35) (v := ?v_2_35) ?ho_2_35 ?hs_2_35 ?hf_2_35 ?hr_2_35 ?hQ_2_35 ?hy_2_35 ?hS_2_35 ?rest_2_35; (case hr_2_35 => kernel_rfl); (case hf_2_35 => kernel_rfl); (case hs_2_35 => kernel_rfl); (case ho_2_35 => (simp only [List.getElem?_toArray, List.getElem?_cons_succ, List.getElem?_cons_zero]; rfl)); (case hS_2_35 => assumption); (case hQ_2_35 => exact fun _ _ _ h => h); (case hy_2_35 => (refine Or.inl ⟨by rfl, ?_⟩; (intro w hSw; (try dsimp only at hSw); go_simp) <;> with_reducible rfl)); (try simp only [Act.put, List.setIfInBounds_toArray, List.set_cons_zero, List.set_cons_succ]))
                      (refine wpAnyH_take (i := 36) (oi := ?oi_2_36) (v := ?v_2_36) ?ho_2_36 ?hs_2_36 ?hf_2_36 ?hr_2_36 ?hQ_2_36 ?hy_2_36 ?hS_2_36 ?rest_2_36; (case hr_2_36 => kernel_rfl); (case hf_2_36 => kernel_rfl); (case hs_2_36 => kernel_rfl); (case ho_2_36 => (simp only [List.getElem?_toArray, List.getElem?_cons_succ, List.getElem?_cons_zero]; rfl)); (case hS_2_36 => assumption); (case hQ_2_36 => exact fun _ _ _ h => h); (case hy_2_36 => (refine Or.inl ⟨by rfl, ?_⟩; (intro w hSw; (try dsimp only at hSw); go_simp) <;> with_reducible rfl)); (try simp only [Act.put, List.setIfInBounds_toArray, List.set_cons_zero, List.set_cons_succ]))
                      (refine wpAnyH_take (i := 37) (oi := ?oi_2_37) (v := ?v_2_37) ?ho_2_37 ?hs_2_37 ?hf_2_37 ?hr_2_37 ?hQ_2_37 ?hy_2_37 ?hS_2_37 ?rest_2_37; (case hr_2_37 => kernel_rfl); (case hf_2_37 => kernel_rfl); (case hs_2_37 => kernel_rfl); (case ho_2_37 => (simp only [List.getElem?_toArray, List.getElem?_cons_succ, List.getElem?_cons_zero]; rfl)); (case hS_2_37 => assumption); (case hQ_2_37 => exact fun _ _ _ h => h); (case hy_2_37 => (refine Or.inl ⟨by rfl, ?_⟩; (intro w hSw; (try dsimp only at hSw); go_simp) <;> with_reducible rfl)); (try simp only [Act.put, List.setIfInBounds_toArray, List.set_cons_zero, List.set_cons_succ]))
                      (refine wpAnyH_take (i := 38) (oi := ?oi_2_38) (v := ?v_2_38) ?ho_2_38 ?hs_2_38 ?hf_2_38 ?hr_2_38 ?hQ_2_38 ?hy_2_38 ?hS_2_38 ?rest_2_38; (case hr_2_38 => kernel_rfl); (case hf_2_38 => kernel_rfl); (case hs_2_38 => kernel_rfl); (case ho_2_38 => (simp only [List.getElem?_toArray, List.getElem?_cons_succ, List.getElem?_cons_zero]; rfl)); (case hS_2_38 => assumption); (case hQ_2_38 => exact fun _ _ _ h => h); (case hy_2_38 => (refine Or.inl ⟨by rfl, ?_⟩; (intro w hSw; (try dsimp only at hSw); go_simp) <;> with_reducible rfl)); (try simp only [Act.put, List.setIfInBounds_toArray, List.set_cons_zero, List.set_cons_succ]))
                      refine wpAnyH_done (by kernel_rfl) ?_ _
                      go_wp2_with fail
                      go_roundw
                      case rel => exact ⟨j + 1, by go_num, by omega, huq.then_drew⟩
                      case measure => simp [intOf]; omega
                  · have hjW' : ¬ (j : Int) < ((W : Nat) : Int) := by omega
                    have hUq := hU1.trans huq fun _ _ h => h
                    go_wp2_with fail
                    refine (lives05 _).mono ?_
                    rintro en w9 ⟨rfl, hu9⟩
                    have hU9 := Upd.trans (hUq) hu9 fun _ _ h => h
                    go_wp2_with fail
                    go_ret
                    exact ⟨rfl, hU9⟩
end Go.Proofs.Ytiadbijholnbjaa
