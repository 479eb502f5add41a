/- Plain laws on fields and readers: what was put is read. -/
import Derived.Test.YtgemlapmjbgdkaaFU
import Derived.Test.YtgemlapmjbgdkaaFPlain
namespace Go.Proofs.Ytgemlapmjbgdkaa
open Go.RowKit Go.Amb

theorem own_form {w : World} {base : Nat} {e : TypeId} {v : Value} {l : List UInt8} (h : Own w base e v l) (hl : 0 < l.length) : ∃ g cap, v = .slice (some ⟨g, 0, none⟩) l.length cap ∧ l.length ≤ cap ∧ cap ≤ maxLen ∧ base ≤ g ∧ g < w.heap.size := by
  have hh := h
  rcases h.2 with ⟨rfl, hn⟩ | ⟨g, cap, cur, rfl, hb, hg, hnc, hcm, hcs, htake⟩
  · omega
  · exact ⟨g, cap, rfl, hnc, hcm, hb, heap_lt hg⟩
theorem foldl_numL (l : List UInt8) : ∀ z : Int, l.foldl (fun n b => n * 256 + (b.toNat : Int)) z = z * 256 ^ l.length + numL l := by
  unfold numL
  induction l with
  | nil => intro z; simp
  | cons b l ih =>
    intro z
    rw [List.foldl_cons, List.foldl_cons, ih (z * 256 + b.toNat), ih (0 * 256 + b.toNat), List.length_cons, Int.pow_succ]
    rw [Int.zero_mul, Int.zero_add, Int.add_mul, Int.mul_assoc, Int.mul_comm 256, Int.add_assoc]
theorem numL_cons (b : UInt8) (l : List UInt8) : numL (b :: l) = b.toNat * 256 ^ l.length + numL l := by
  have := foldl_numL l (b.toNat : Int)
  unfold numL at *
  rw [List.foldl_cons, Int.zero_mul, Int.zero_add]
  exact this
theorem numL_fld (n : Int) (m : Nat) : numL (fld n m) = n % 256 ^ m := by
  induction m with
  | zero => simp [fld, fldTo, numL, Int.emod_one]
  | succ m ih =>
    rw [fld_succ, numL_cons, fld_length, ih, byteAt_int, pow8]
    have hp : (0 : Int) < 256 ^ m := Int.pow_pos (by decide)
    have h1 := Int.emod_add_mul_ediv n (256 ^ m)
    have h2 := Int.emod_add_mul_ediv (n / 256 ^ m) 256
    have h3 := Int.emod_add_mul_ediv n (256 ^ (m + 1))
    have h4 : n / 256 ^ (m + 1) = n / 256 ^ m / 256 := by rw [Int.pow_succ, Int.ediv_ediv_of_nonneg (by omega)]
    rw [h4, Int.pow_succ, Int.mul_assoc] at h3
    rw [Int.pow_succ]
    generalize n / 256 ^ m / 256 = q at *
    generalize n / 256 ^ m % 256 = r at *
    generalize n / 256 ^ m = d at *
    rw [← h2, Int.mul_add] at h1
    have h5 : (256 : Int) ^ m * r = r * 256 ^ m := Int.mul_comm _ _
    omega

theorem txt_length (s : List UInt8) : (txt s).length = 4 + s.length := by simp [txt, fld_length]
theorem txt_num (s : List UInt8) (more : List UInt8) (hs : s.length < 4294967296) : numL (((txt s ++ more).drop 0).take 4) = s.length := by
  have h : ((txt s ++ more).drop 0).take 4 = fld s.length 4 := by
    unfold txt
    rw [List.drop_zero, List.append_assoc, List.take_append_of_le_length (by rw [fld_length]; omega), List.take_of_length_le (by rw [fld_length]; omega)]
  rw [h, numL_fld]
  omega
/-- A text of which the end is missing. -/
theorem short_text (s : List UInt8) (i : Nat) (hs : s.length < 4294967296) (hi : i < 4 + s.length) : rdText ((txt s).take i) 0 0 s.length = (0, 3, []) := by
  have hlen : ((txt s).take i).length = i := by rw [List.length_take, txt_length]; omega
  by_cases h : 4 ≤ i
  · have e : ((txt s).take i).drop 0 = (txt s).take i := rfl
    have hz : numL ((((txt s).take i).drop 0).take 4) = s.length := by
      have := txt_num s [] hs
      rw [List.append_nil, List.drop_zero] at this
      rw [e, List.take_take, show min 4 i = 4 by omega]
      exact this
    rw [rdText_short (by omega) (by rw [hz]; omega) (by rw [hz, hlen]; omega)]
  · rw [rdText_head (by omega)]
theorem short_num (n : Int) (m j : Nat) (hj : j < m) : rdNum ((fld n m).take j) 0 0 m = (0, 3, 0) := rdNum_short (by rw [List.length_take, fld_length]; omega)
/-- What was put behind is read behind. -/
theorem drop_take_app (a b c : List UInt8) (n : Nat) (hn : n = b.length) : ((a ++ b ++ c).drop a.length).take n = b := by
  subst hn
  rw [List.append_assoc, List.drop_left, List.take_left]
theorem back_text (s more : List UInt8) (hs : s.length < 4294967296) : rdText (txt s ++ more) 0 0 s.length = (4 + s.length, 0, s) := by
  have hz := txt_num s more hs
  rw [rdText_ok (by rw [List.length_append, txt_length]; omega) (by rw [hz]; omega) (by rw [hz, List.length_append, txt_length]; omega), hz]
  simp only [Int.toNat_natCast, Nat.zero_add]
  have h : ((txt s ++ more).drop 4).take s.length = s := by
    have := drop_take_app (fld s.length 4) s more s.length rfl
    rwa [fld_length] at this
  rw [h]
/-- A number behind what was read. -/
theorem back_num (a more : List UInt8) (n : Int) (m : Nat) : rdNum (a ++ fld n m ++ more) a.length 0 m = (a.length + m, 0, wrap64 (n % 256 ^ m)) := by
  rw [rdNum_ok (by rw [List.length_append, List.length_append, fld_length]; omega), drop_take_app a (fld n m) more m (fld_length n m).symm, numL_fld]
end Go.Proofs.Ytgemlapmjbgdkaa
