/- The walks over strconv.Itoa, layout.Version at every number; what ReadVersion tells of a version's text. -/
import Derived.Test.YtaflpabpkpfifaaDoorMLyV
import Derived.Test.YtaflpabpkpfifaaDoorMItoaL
namespace Go.Proofs.YtaflpabpkpfifaaDoor
set_option maxRecDepth 100000
open Go.RowKit Go.Amb
set_option linter.unusedVariables false
attribute [local go_sem ↓] Go.wp_at_zero Go.wp_at_succ

/-- The table of the powers of ten. -/
abbrev Tab (w : World) : Prop := Lib.TabIs Tryd.prog w "internal/strconv.uint64pow10" .u64 Lib.pow10Tab
theorem tab_upd {w w' : World} (h : Tab w) (hu : Upd Non w w') : Tab w' := by
  have hg : Tryd.prog.globalNamed "internal/strconv.uint64pow10" = some 1 := by kernel_rfl
  unfold Tab Lib.TabIs World.var? at *
  rw [hg] at h ⊢
  simp only [Option.bind_some] at h ⊢
  have hlt : 1 < w.heap.size := by
    rcases Nat.lt_or_ge 1 w.heap.size with h' | h'
    · exact h'
    · rw [Array.getElem?_eq_none h'] at h; simp at h
  rw [hu.block 1 hlt (fun h => h)]
  exact h
theorem upd_grow (w : World) (n : Nat) (os : Array Obj) : Upd Non w (Go.Sort.grow (w.drewN n) os) :=
  ⟨rfl, rfl, rfl, by show w.heap.size ≤ (w.heap ++ os).size; simp, fun k hk _ => by
    show (w.heap ++ os)[k]? = w.heap[k]?
    rw [Array.getElem?_append_left hk]⟩
theorem yItoa (n : Int) (w : World) (hn : i64Ok n) (ht : Tab w) : Calls Tryd.prog 52 #[.int .i64 n] w (Ret (txtV (Lib.itoa n)) w) := by
  refine (Tryd.strconv_Itoa n hn.1 hn.2 w ht).mono ?_
  rintro e w' ⟨rfl, k, os, rfl⟩
  exact ⟨rfl, upd_grow w k os⟩
/-- A version's text. -/
def verT (id : Int) (null : Bool) : Str := if null then nullS else if id < 0 then [] else Lib.itoa id
theorem yVersion (id : Int) (null : Bool) (w : World) (hn : i64Ok id) (ht : Tab w) : Calls Tryd.prog 20 #[.int .i64 id, .bool null] w (Ret (txtV (verT id null)) w) := by
  unfold verT txtV
  cases null with
  | true =>
    go_enter Tryd.func20, Tryd.ntmps20
    go_wp2_with fail
    go_ret
    exact ⟨rfl, Upd.refl _ _⟩
  | false =>
    by_cases h : id < 0
    · have e : (if (false : Bool) = true then nullS else if id < 0 then [] else Lib.itoa id) = [] := by rw [if_neg (by decide), if_pos h]
      rw [e]
      clear e
      go_enter Tryd.func20, Tryd.ntmps20
      go_wp2_with fail
      go_ret
      exact ⟨rfl, Upd.refl _ _⟩
    · have e : (if (false : Bool) = true then nullS else if id < 0 then [] else Lib.itoa id) = Lib.itoa id := by rw [if_neg (by decide), if_neg h]
      rw [e]
      clear e
      have hI := Lib.hid (fun w' (hu : Upd Non w w') => yItoa id w' hn (tab_upd ht hu))
      unfold txtV at hI
      generalize Lib.itoa id = t at *
      go_enter Tryd.func20, Tryd.ntmps20
      go_wp2_with fail
      refine (hI.out _ (Upd.refl _ _)).mono ?_
      rintro e w1 ⟨rfl, hu⟩
      go_wp2_with fail
      go_ret
      exact ⟨rfl, hu⟩
/-- What ReadVersion tells of any bytes. -/
theorem yReadVersionT (s : Str) (w : World) (ht : Tab w) : Calls Tryd.prog 19 #[txtV s] w (Ret (verV (verR s (Lib.itoa (valL s : Int)))) w) :=
  yReadVersion s (Lib.itoa (valL s : Int)) w (fun _ hv w' hu => yItoa (valL s : Int) w' ⟨by omega, by omega⟩ (tab_upd ht hu))
theorem dig_ofNat (d : Nat) (h : d < 10) : (UInt8.ofNat (48 + d)).toNat = 48 + d := by
  simp; omega
theorem dec_digits : ∀ (n u : Nat), u ≤ n → (Lib.decDigits u).all digB = true ∧ valL (Lib.decDigits u) = u := by
  intro n
  induction n with
  | zero =>
    intro u hu
    obtain rfl : u = 0 := by omega
    rw [Lib.decDigits, dif_pos (by decide)]
    exact ⟨by decide, by decide⟩
  | succ n ih =>
    intro u hu
    by_cases h : u < 10
    · rw [Lib.decDigits, dif_pos h]
      have e := dig_ofNat u h
      refine ⟨?_, ?_⟩
      · simp only [List.all_cons, List.all_nil, Bool.and_true]
        unfold digB
        rw [e]
        exact decide_eq_true ⟨by omega, by omega⟩
      · show 10 * 0 + ((UInt8.ofNat (48 + u)).toNat - 48) = u
        rw [e]; omega
    · rw [Lib.decDigits, dif_neg h]
      obtain ⟨h1, h2⟩ := ih (u / 10) (by omega)
      have e := dig_ofNat (u % 10) (by omega)
      refine ⟨?_, ?_⟩
      · rw [List.all_append, h1]
        simp only [List.all_cons, List.all_nil, Bool.and_true, Bool.true_and]
        unfold digB
        rw [e]
        exact decide_eq_true ⟨by omega, by omega⟩
      · rw [valL_snoc, h2, e]; omega
theorem dec_len : ∀ (k u : Nat), u < 10 ^ (k + 1) → (Lib.decDigits u).length ≤ k + 1 := by
  intro k
  induction k with
  | zero => intro u hu; rw [Lib.decDigits, dif_pos (by simpa using hu)]; simp
  | succ k ih =>
    intro u hu
    by_cases h : u < 10
    · rw [Lib.decDigits, dif_pos h]; simp
    · rw [Lib.decDigits, dif_neg h, List.length_append]
      have := ih (u / 10) (by rw [Nat.pow_succ] at hu; omega)
      simp; omega
theorem itoa_pos (n : Int) (h : 0 ≤ n) : Lib.itoa n = Lib.decDigits n.toNat := by unfold Lib.itoa; rw [if_neg (by omega)]
/-- A version's text is read as the version. -/
theorem ver_back (id : Int) (h0 : 0 ≤ id) (h1 : id ≤ 1152921504606846976) : verR (verT id false) (Lib.itoa (valL (verT id false) : Int)) = (id, false, 0) := by
  have e : verT id false = Lib.decDigits id.toNat := by
    unfold verT
    rw [if_neg (by decide), if_neg (by omega), itoa_pos id h0]
  obtain ⟨hd, hv⟩ := dec_digits id.toNat id.toNat (Nat.le_refl _)
  have hl : (Lib.decDigits id.toNat).length ≤ 19 := dec_len 18 id.toNat (by omega)
  have hn : Lib.decDigits id.toNat ≠ nullS := fun f => by rw [f] at hd; revert hd; decide
  rw [e, hv]
  have ei : ((id.toNat : Nat) : Int) = id := by omega
  rw [verR_yes hn ⟨hl, hd, by rw [hv]; omega, by rw [itoa_pos _ (by omega)]; rw [ei]⟩, hv, ei]
theorem ver_null (t : Str) (id : Int) : verR (verT id true) t = (0, true, 0) := by
  unfold verT verR
  rw [if_pos rfl, if_pos rfl]
end Go.Proofs.YtaflpabpkpfifaaDoor
