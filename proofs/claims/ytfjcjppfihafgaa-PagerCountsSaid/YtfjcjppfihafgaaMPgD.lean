/- A page of a disk, in plain Lean: eight sectors. -/
import Derived.Test.YtfjcjppfihafgaaMBlM
namespace Go.Amb
set_option linter.unusedVariables false
set_option linter.unusedSimpArgs false
/-- A page's bytes, noughts behind. -/
def pad (b : List UInt8) : List UInt8 := b ++ List.replicate (1024 - b.length) 0
/-- What sector k of a page has. -/
def chunk (b : List UInt8) (k : Nat) : List UInt8 := ((pad b).drop (128 * k)).take 128
theorem pad_length {b : List UInt8} (h : b.length ≤ 1024) : (pad b).length = 1024 := by
  unfold pad; rw [List.length_append, List.length_replicate]; omega
theorem chunk_length {b : List UInt8} (h : b.length ≤ 1024) {k : Nat} (hk : k < 8) : (chunk b k).length = 128 := by
  unfold chunk; rw [List.length_take, List.length_drop, pad_length h]; omega
theorem chunk_le (b : List UInt8) (k : Nat) : (chunk b k).length ≤ 128 := by
  unfold chunk; rw [List.length_take]; omega
theorem full_whole {s : List UInt8} (h : s.length = 128) : full s = s := by unfold full; rw [h]; simp
/-- So many sectors, from k on, are written. -/
def overD (base : Nat) (b : List UInt8) : Nat → Nat → Dk → Dk × Int
  | 0, _, d => (d, 0)
  | m + 1, k, d => if (d.write ((base + k : Nat) : Int) (chunk b k)).2 ≠ 0 then d.write ((base + k : Nat) : Int) (chunk b k) else overD base b m (k + 1) (d.write ((base + k : Nat) : Int) (chunk b k)).1
/-- So many sectors, from k on, are read, behind what was. -/
def readD (base : Nat) (d : Dk) : Nat → Nat → List UInt8 → List UInt8 × Int
  | 0, _, acc => (acc, 0)
  | m + 1, k, acc => if d.within ((base + k : Nat) : Int) ≠ 0 then ([], d.within ((base + k : Nat) : Int)) else readD base d m (k + 1) (acc ++ d.reads ((base + k : Nat) : Int))
/-- A disk that lives, and has no fuse. -/
structure Liv (d : Dk) (n : Nat) : Prop where
  len : d.K.length = n
  f : d.f = -1
  dd : d.dd = false
theorem liv_crash {d : Dk} {n : Nat} (h : Liv d n) (l : List Int) : Liv (d.crash l) n := ⟨(keepK_length ..).trans h.len, rfl, rfl⟩
theorem Liv.within {d : Dk} {n : Nat} (h : Liv d n) {i : Nat} (hi : i < n) : d.within (i : Int) = 0 := by
  unfold Dk.within
  rw [h.dd, h.len, if_neg (by decide), if_neg (by omega)]
theorem Liv.write {d : Dk} {n : Nat} (h : Liv d n) {i : Nat} (hi : i < n) {s : List UInt8} (hs : s.length ≤ 128) : d.write (i : Int) s = ({ d with P := d.P ++ [(full s, i)] }, 0) := by
  have hb : d.burn = (d, 0) := by unfold Dk.burn; rw [h.f, if_neg (by decide), if_neg (by decide)]
  unfold Dk.write
  rw [h.within hi, if_neg (by simp), if_neg (by omega), hb, if_neg (by simp)]
  simp
theorem liv_put {d : Dk} {n : Nat} (h : Liv d n) (P : List (List UInt8 × Nat)) : Liv { d with P := P } n := ⟨h.len, h.f, h.dd⟩
theorem has_put (d : Dk) (s : List UInt8) (i j : Nat) : Dk.has { d with P := d.P ++ [(s, i)] } j = if i = j then s else d.has j := by
  unfold Dk.has lastAt
  simp only [List.reverse_append, List.reverse_cons, List.reverse_nil, List.nil_append, List.singleton_append, List.find?_cons]
  by_cases h : i = j
  · simp [h]
  · simp [h]
theorem over_liv {n base : Nat} {b : List UInt8} : ∀ (m k : Nat) (d : Dk), Liv d n → base + k + m ≤ n → ∃ d', overD base b m k d = (d', 0) ∧ Liv d' n ∧ d'.P.length = d.P.length + m ∧
    (∀ j, k ≤ j → j < k + m → d'.has (base + j) = full (chunk b j)) ∧ ∀ j, j < base + k ∨ base + k + m ≤ j → d'.has j = d.has j
  | 0, k, d, h, hn => ⟨d, rfl, h, rfl, fun j h1 h2 => absurd h2 (by omega), fun _ _ => rfl⟩
  | m + 1, k, d, h, hn => by
    have hw := h.write (i := base + k) (by omega) (chunk_le b k)
    obtain ⟨d', h1, h2, h3, h4, h5⟩ := over_liv (n := n) (base := base) (b := b) m (k + 1) { d with P := d.P ++ [(full (chunk b k), base + k)] } (liv_put h _) (by omega)
    refine ⟨d', ?_, h2, ?_, fun j hj1 hj2 => ?_, fun j hj => ?_⟩
    · rw [overD, hw, if_neg (by simp)]
      exact h1
    · rw [h3]; simp; omega
    · by_cases hjk : j = k
      · subst hjk
        rw [h5 _ (by omega), has_put, if_pos rfl]
      · exact h4 j (by omega) (by omega)
    · rw [h5 j (by omega), has_put, if_neg (by omega)]
theorem read_liv {n base : Nat} {d : Dk} (h : Liv d n) : ∀ (m k : Nat) (acc : List UInt8), base + k + m ≤ n → readD base d m k acc = (acc ++ (List.range m).flatMap fun j => d.has (base + k + j), 0)
  | 0, k, acc, hn => by simp [readD]
  | m + 1, k, acc, hn => by
    have hw := h.within (i := base + k) (by omega)
    have hr : d.reads ((base + k : Nat) : Int) = d.has (base + k) := by unfold Dk.reads; rw [if_pos hw, Int.toNat_natCast]
    rw [readD, hw, if_neg (by simp), read_liv h m (k + 1) _ (by omega), hr, List.range_succ_eq_map]
    simp only [List.flatMap_cons, List.flatMap_map, Nat.add_zero, List.append_assoc]
    have e : (fun j => d.has (base + (k + 1) + j)) = fun a => d.has (base + k + a.succ) := funext fun j => by rw [show base + (k + 1) + j = base + k + j.succ by omega]
    rw [e]
theorem chunks_all {b : List UInt8} (h : b.length ≤ 1024) : ((List.range 8).flatMap fun j => full (chunk b j)) = pad b := by
  have hl := pad_length h
  have e : ∀ k, k < 8 → full (chunk b k) = ((pad b).drop (128 * k)).take 128 := fun k hk => full_whole (chunk_length h hk)
  have hr : List.range 8 = [0, 1, 2, 3, 4, 5, 6, 7] := rfl
  rw [hr]
  simp only [List.flatMap_cons, List.flatMap_nil, List.append_nil]
  rw [e 0 (by decide), e 1 (by decide), e 2 (by decide), e 3 (by decide), e 4 (by decide), e 5 (by decide), e 6 (by decide), e 7 (by decide)]
  generalize pad b = p at *
  clear e hr h
  have step : ∀ (k : Nat), p.drop k = (p.drop k).take 128 ++ p.drop (k + 128) := fun k => by
    conv => lhs; rw [← List.take_append_drop 128 (p.drop k), List.drop_drop]
  have h8 : p.drop 1024 = [] := List.drop_eq_nil_of_le (by omega)
  conv => rhs; rw [show p = p.drop 0 from rfl, step 0, step 128, step 256, step 384, step 512, step 640, step 768, step 896, h8]
  simp
/-- What was written is read. -/
theorem page_back {n base : Nat} {b : List UInt8} {d d' : Dk} (h : Liv d n) (hn : base + 8 ≤ n) (hb : b.length ≤ 1024) (ho : overD base b 8 0 d = (d', 0)) : readD base d' 8 0 [] = (pad b, 0) := by
  obtain ⟨d2, h1, h2, h3, h4, h5⟩ := over_liv (b := b) 8 0 d h (by omega)
  rw [ho] at h1
  obtain rfl : d' = d2 := by injection h1
  rw [read_liv h2 8 0 [] (by omega), List.nil_append, ← chunks_all hb]
  congr 1
  have e : ∀ (l : List Nat), (∀ j ∈ l, j < 8) → (l.flatMap fun j => d'.has (base + 0 + j)) = l.flatMap fun j => full (chunk b j) := by
    intro l
    induction l with
    | nil => intro _; rfl
    | cons j l ih =>
      intro hl
      rw [List.flatMap_cons, List.flatMap_cons, ih fun x hx => hl x (List.mem_cons_of_mem _ hx)]
      congr 1
      exact h4 j (by omega) (by have := hl j (List.mem_cons_self ..); omega)
  exact e _ fun j hj => List.mem_range.1 hj
theorem wrt_P (d : Dk) (i : Int) (s : List UInt8) : (d.write i s).1.P.length ≤ d.P.length + 1 := by
  unfold Dk.write
  split
  · exact Nat.le_succ _
  · split
    · exact Nat.le_succ _
    · split
      · rw [Dk.burn_P]; exact Nat.le_succ _
      · simp [Dk.burn_P]
theorem over_P (base : Nat) (b : List UInt8) : ∀ (m k : Nat) (d : Dk), (overD base b m k d).1.P.length ≤ d.P.length + m
  | 0, _, d => Nat.le_refl _
  | m + 1, k, d => by
    have h := wrt_P d ((base + k : Nat) : Int) (chunk b k)
    rw [overD]
    split
    · omega
    · have := over_P base b m (k + 1) (d.write ((base + k : Nat) : Int) (chunk b k)).1
      omega
end Go.Amb
