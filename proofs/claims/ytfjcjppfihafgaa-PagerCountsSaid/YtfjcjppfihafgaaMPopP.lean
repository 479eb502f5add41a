/- Plain: how many bits of a word are set, told by the well-known sums. -/
import Derived.IntWalk
namespace Go.Amb
/-- How many of a number's first bits are set. -/
def popc : Nat → Nat → Nat
  | 0, _ => 0
  | n + 1, x => x % 2 + popc n (x / 2)
theorem popc_add (m n : Nat) : ∀ x, popc (m + n) x = popc m x + popc n (x / 2 ^ m) := by
  induction m with
  | zero => intro x; simp [popc]
  | succ m ih =>
    intro x
    rw [Nat.add_right_comm, popc, popc, ih, Nat.div_div_eq_div_mul, Nat.pow_succ, Nat.mul_comm 2, Nat.add_assoc]
theorem popc_mod (m : Nat) : ∀ x, popc m (x % 2 ^ m) = popc m x := by
  induction m with
  | zero => intro x; rfl
  | succ m ih =>
    intro x
    rw [popc, popc, ← ih (x / 2), Nat.pow_succ, Nat.mod_mul_left_div_self, Nat.mod_mod_of_dvd _ (Nat.dvd_mul_left 2 (2 ^ m))]
theorem and_lane (a b c d : Nat) (ha : a < 256) (hc : c < 256) : (a + 256 * b) &&& (c + 256 * d) = (a &&& c) + 256 * (b &&& d) := by
  apply Nat.eq_of_testBit_eq
  intro i
  have h1 := Nat.testBit_two_pow_mul_add (i := 8) b (b := a) ha i
  have h2 := Nat.testBit_two_pow_mul_add (i := 8) d (b := c) hc i
  have h3 := Nat.testBit_two_pow_mul_add (i := 8) (b &&& d) (b := a &&& c) (Nat.lt_of_le_of_lt Nat.and_le_left ha) i
  rw [Nat.testBit_and, Nat.add_comm a, Nat.add_comm c, Nat.add_comm (a &&& c), show (256 : Nat) = 2 ^ 8 from rfl, h1, h2, h3]
  by_cases h : i < 8 <;> simp [h]
/-- The sums' steps, a byte at a time. -/
def l1 (y : Nat) : Nat := (y / 2 &&& 85) + (y &&& 85)
def l2 (y : Nat) : Nat := (y / 4 &&& 51) + (y &&& 51)
def l3 (y : Nat) : Nat := y / 16 + y &&& 15
theorem l_all : ∀ y, y < 256 → l1 y < 256 ∧ l2 (l1 y) < 69 ∧ l2 (l1 y) % 16 < 5 ∧ l3 (l2 (l1 y)) = popc 8 y := by decide +kernel
theorem sh1 : ∀ y, y < 256 → ∀ e, e < 2 → (y / 2 + 128 * e) &&& 85 = (y / 2) &&& 85 := by decide +kernel
theorem sh2 : ∀ y, y < 256 → ∀ e, e < 4 → (y / 4 + 64 * e) &&& 51 = (y / 4) &&& 51 := by decide +kernel
theorem sh3 : ∀ y, y < 69 → y % 16 < 5 → ∀ e, e < 5 → (y / 16 + 16 * e + y) &&& 15 = (y / 16 + y) &&& 15 := by decide +kernel
/-- Masks of so many bytes alike. -/
def rep (c : Nat) : Nat → Nat
  | 0 => 0
  | n + 1 => c + 256 * rep c n
theorem m85 : rep 85 8 = 6148914691236517205 := by decide
theorem m51 : rep 51 8 = 3689348814741910323 := by decide
theorem m15 : rep 15 8 = 1085102592571150095 := by decide
/-- A number by its bytes, the lowest first. -/
def lanes : List Nat → Nat
  | [] => 0
  | y :: l => y + 256 * lanes l
def bytesN : Nat → Nat → List Nat
  | 0, _ => []
  | n + 1, x => x % 256 :: bytesN n (x / 256)
theorem lanes_bytes (n : Nat) : ∀ x, x < 256 ^ n → lanes (bytesN n x) = x := by
  induction n with
  | zero => intro x h; simp at h; subst h; rfl
  | succ n ih =>
    intro x h
    show x % 256 + 256 * lanes (bytesN n (x / 256)) = x
    rw [ih _ (by rw [Nat.pow_succ] at h; exact Nat.div_lt_of_lt_mul (by rwa [Nat.mul_comm]))]
    exact Nat.mod_add_div x 256
theorem bytesN_lt (n : Nat) : ∀ x, ∀ y ∈ bytesN n x, y < 256 := by
  induction n with
  | zero => intro x y h; cases h
  | succ n ih =>
    intro x y h
    rcases List.mem_cons.1 h with rfl | h
    · exact Nat.mod_lt _ (by decide)
    · exact ih _ y h
theorem bytesN_length (n : Nat) : ∀ x, (bytesN n x).length = n := by
  induction n with
  | zero => intro x; rfl
  | succ n ih => intro x; simp [bytesN, ih]
theorem popc_bytes (n : Nat) : ∀ x, ((bytesN n x).map (popc 8)).sum = popc (8 * n) x := by
  induction n with
  | zero => intro x; rfl
  | succ n ih =>
    intro x
    show ((x % 256 :: bytesN n (x / 256)).map (popc 8)).sum = _
    rw [Nat.mul_succ, Nat.add_comm, popc_add, List.map_cons, List.sum_cons, ih, show (256 : Nat) = 2 ^ 8 from rfl, popc_mod]
theorem and_rep (c : Nat) (hc : c < 256) : ∀ ys : List Nat, (∀ y ∈ ys, y < 256) → lanes ys &&& rep c ys.length = lanes (ys.map (· &&& c)) := by
  intro ys
  induction ys with
  | nil => intro _; simp [lanes, rep]
  | cons y l ih =>
    intro h
    show (y + 256 * lanes l) &&& (c + 256 * rep c l.length) = _
    rw [and_lane _ _ _ _ (h y (List.mem_cons_self ..)) hc, ih fun z hz => h z (List.mem_cons_of_mem _ hz)]
    rfl
theorem lanes_add (f g : Nat → Nat) (ys : List Nat) : lanes (ys.map f) + lanes (ys.map g) = lanes (ys.map fun y => f y + g y) := by
  induction ys with
  | nil => rfl
  | cons y l ih =>
    show f y + 256 * lanes (l.map f) + (g y + 256 * lanes (l.map g)) = f y + g y + 256 * lanes (l.map fun y => f y + g y)
    rw [← ih]; omega
theorem sh_rep1 : ∀ ys : List Nat, (∀ y ∈ ys, y < 256) → (lanes ys / 2) &&& rep 85 ys.length = lanes (ys.map fun y => y / 2 &&& 85) := by
  intro ys
  induction ys with
  | nil => intro _; simp [lanes, rep]
  | cons y l ih =>
    intro h
    have hy := h y (List.mem_cons_self ..)
    have e : (y + 256 * lanes l) / 2 = (y / 2 + 128 * (lanes l % 2)) + 256 * (lanes l / 2) := by omega
    show ((y + 256 * lanes l) / 2) &&& (85 + 256 * rep 85 l.length) = _
    rw [e, and_lane _ _ _ _ (by omega) (by decide), ih fun z hz => h z (List.mem_cons_of_mem _ hz), sh1 y hy _ (Nat.mod_lt _ (by decide))]
    rfl
theorem sh_rep2 : ∀ ys : List Nat, (∀ y ∈ ys, y < 256) → (lanes ys / 4) &&& rep 51 ys.length = lanes (ys.map fun y => y / 4 &&& 51) := by
  intro ys
  induction ys with
  | nil => intro _; simp [lanes, rep]
  | cons y l ih =>
    intro h
    have hy := h y (List.mem_cons_self ..)
    have e : (y + 256 * lanes l) / 4 = (y / 4 + 64 * (lanes l % 4)) + 256 * (lanes l / 4) := by omega
    show ((y + 256 * lanes l) / 4) &&& (51 + 256 * rep 51 l.length) = _
    rw [e, and_lane _ _ _ _ (by omega) (by decide), ih fun z hz => h z (List.mem_cons_of_mem _ hz), sh2 y hy _ (Nat.mod_lt _ (by decide))]
    rfl
theorem lanes_mod16 (ys : List Nat) (h : ∀ y ∈ ys, y % 16 < 5) : lanes ys % 16 < 5 := by
  cases ys with
  | nil => decide
  | cons y l =>
    have := h y (List.mem_cons_self ..)
    show (y + 256 * lanes l) % 16 < 5
    omega
theorem sh_rep3 : ∀ ys : List Nat, (∀ y ∈ ys, y < 69 ∧ y % 16 < 5) → (lanes ys / 16 + lanes ys) &&& rep 15 ys.length = lanes (ys.map fun y => y / 16 + y &&& 15) := by
  intro ys
  induction ys with
  | nil => intro _; simp [lanes, rep]
  | cons y l ih =>
    intro h
    have hy := h y (List.mem_cons_self ..)
    have hl := lanes_mod16 l fun z hz => (h z (List.mem_cons_of_mem _ hz)).2
    have e : (y + 256 * lanes l) / 16 + (y + 256 * lanes l) = (y / 16 + 16 * (lanes l % 16) + y) + 256 * (lanes l / 16 + lanes l) := by omega
    show ((y + 256 * lanes l) / 16 + (y + 256 * lanes l)) &&& (15 + 256 * rep 15 l.length) = _
    rw [e, and_lane _ _ _ _ (by omega) (by decide), ih fun z hz => h z (List.mem_cons_of_mem _ hz), sh3 y hy.1 hy.2 _ hl]
    rfl
theorem lanes_lt : ∀ ys : List Nat, (∀ y ∈ ys, y < 256) → lanes ys < 256 ^ ys.length := by
  intro ys
  induction ys with
  | nil => intro _; decide
  | cons y l ih =>
    intro h
    have := h y (List.mem_cons_self ..)
    have := ih fun z hz => h z (List.mem_cons_of_mem _ hz)
    show y + 256 * lanes l < 256 ^ (l.length + 1)
    rw [Nat.pow_succ]; omega
theorem lanes_69 : ∀ ys : List Nat, (∀ y ∈ ys, y < 69) → 255 * lanes ys + 68 ≤ 68 * 256 ^ ys.length := by
  intro ys
  induction ys with
  | nil => intro _; decide
  | cons y l ih =>
    intro h
    have := h y (List.mem_cons_self ..)
    have := ih fun z hz => h z (List.mem_cons_of_mem _ hz)
    show 255 * (y + 256 * lanes l) + 68 ≤ 68 * 256 ^ (l.length + 1)
    rw [Nat.pow_succ]; omega
/-- The first three steps. -/
theorem pop3 (x : Nat) (h : x < 18446744073709551616) :
    ∃ s1 s2, (x / 2 &&& 6148914691236517205) + (x &&& 6148914691236517205) = s1 ∧ s1 < 18446744073709551616 ∧ (s1 / 4 &&& 3689348814741910323) + (s1 &&& 3689348814741910323) = s2 ∧ s2 < 18446744073709551616 ∧ s2 / 16 + s2 < 18446744073709551616 ∧
      (s2 / 16 + s2 &&& 1085102592571150095) = lanes ((bytesN 8 x).map (popc 8)) := by
  have hx := lanes_bytes 8 x (by simpa using h)
  have hb := bytesN_lt 8 x
  have hn := bytesN_length 8 x
  generalize bytesN 8 x = ys at *
  have e1 : (x / 2 &&& 6148914691236517205) + (x &&& 6148914691236517205) = lanes (ys.map l1) := by
    rw [← m85, ← hx, ← hn, sh_rep1 ys hb, and_rep 85 (by decide) ys hb, lanes_add]
    rfl
  have hb1 : ∀ y ∈ ys.map l1, y < 256 := fun y hy => by
    obtain ⟨z, hz, rfl⟩ := List.mem_map.1 hy
    exact (l_all z (hb z hz)).1
  have hn1 : (ys.map l1).length = 8 := by rw [List.length_map, hn]
  have e2 : (lanes (ys.map l1) / 4 &&& 3689348814741910323) + (lanes (ys.map l1) &&& 3689348814741910323) = lanes ((ys.map l1).map l2) := by
    rw [← m51, ← hn1, sh_rep2 _ hb1, and_rep 51 (by decide) _ hb1, lanes_add]
    rfl
  have hb2 : ∀ y ∈ (ys.map l1).map l2, y < 69 ∧ y % 16 < 5 := fun y hy => by
    obtain ⟨z, hz, rfl⟩ := List.mem_map.1 hy
    obtain ⟨u, hu, rfl⟩ := List.mem_map.1 hz
    exact ⟨(l_all u (hb u hu)).2.1, (l_all u (hb u hu)).2.2.1⟩
  have hn2 : ((ys.map l1).map l2).length = 8 := by rw [List.length_map, hn1]
  have e3 : (lanes ((ys.map l1).map l2) / 16 + lanes ((ys.map l1).map l2) &&& 1085102592571150095) = lanes (ys.map (popc 8)) := by
    have := sh_rep3 _ hb2
    rw [hn2, m15] at this
    rw [this, List.map_map, List.map_map]
    congr 1
    refine List.map_congr_left fun y hy => ?_
    exact (l_all y (hb y hy)).2.2.2
  have b1 := lanes_lt _ hb1
  have b2 := lanes_69 _ fun y hy => (hb2 y hy).1
  rw [hn1] at b1
  rw [hn2] at b2
  simp only [Nat.reducePow] at b1 b2
  exact ⟨_, _, e1, b1, e2, by omega, by omega, e3⟩
theorem popc_le (n : Nat) : ∀ x, popc n x ≤ n := by
  induction n with
  | zero => intro x; exact Nat.le_refl _
  | succ n ih => intro x; have := ih (x / 2); unfold popc; omega
theorem last4 (a b c d e f g h : Nat) (ha : a ≤ 8) (hb : b ≤ 8) (hc : c ≤ 8) (hd : d ≤ 8) (he : e ≤ 8) (hf : f ≤ 8) (hg : g ≤ 8) (hh : h ≤ 8) : (a + 256 * (b + 256 * (c + 256 * (d + 256 * (e + 256 * (f + 256 * (g + 256 * (h + 256 * (0))))))))) + (a + 256 * (b + 256 * (c + 256 * (d + 256 * (e + 256 * (f + 256 * (g + 256 * (h + 256 * (0))))))))) / 256 = (a + b) + 256 * ((b + c) + 256 * ((c + d) + 256 * ((d + e) + 256 * ((e + f) + 256 * ((f + g) + 256 * ((g + h) + 256 * ((h) + 256 * (0)))))))) := by omega
theorem last5 (a b c d e f g h : Nat) (ha : a ≤ 8) (hb : b ≤ 8) (hc : c ≤ 8) (hd : d ≤ 8) (he : e ≤ 8) (hf : f ≤ 8) (hg : g ≤ 8) (hh : h ≤ 8) : ((a + b) + 256 * ((b + c) + 256 * ((c + d) + 256 * ((d + e) + 256 * ((e + f) + 256 * ((f + g) + 256 * ((g + h) + 256 * ((h) + 256 * (0))))))))) + ((a + b) + 256 * ((b + c) + 256 * ((c + d) + 256 * ((d + e) + 256 * ((e + f) + 256 * ((f + g) + 256 * ((g + h) + 256 * ((h) + 256 * (0))))))))) / 65536 = (a + b + c + d) + 256 * ((b + c + d + e) + 256 * ((c + d + e + f) + 256 * ((d + e + f + g) + 256 * ((e + f + g + h) + 256 * ((f + g + h) + 256 * ((g + h) + 256 * ((h) + 256 * (0)))))))) := by omega
theorem last6 (a b c d e f g h : Nat) (ha : a ≤ 8) (hb : b ≤ 8) (hc : c ≤ 8) (hd : d ≤ 8) (he : e ≤ 8) (hf : f ≤ 8) (hg : g ≤ 8) (hh : h ≤ 8) : ((a + b + c + d) + 256 * ((b + c + d + e) + 256 * ((c + d + e + f) + 256 * ((d + e + f + g) + 256 * ((e + f + g + h) + 256 * ((f + g + h) + 256 * ((g + h) + 256 * ((h) + 256 * (0))))))))) + ((a + b + c + d) + 256 * ((b + c + d + e) + 256 * ((c + d + e + f) + 256 * ((d + e + f + g) + 256 * ((e + f + g + h) + 256 * ((f + g + h) + 256 * ((g + h) + 256 * ((h) + 256 * (0))))))))) / 4294967296 = (a + b + c + d + e + f + g + h) + 256 * ((b + c + d + e + f + g + h) + 256 * ((c + d + e + f + g + h) + 256 * ((d + e + f + g + h) + 256 * ((e + f + g + h) + 256 * ((f + g + h) + 256 * ((g + h) + 256 * ((h) + 256 * (0)))))))) := by omega
/-- The last steps. -/
theorem pop_last (x : Nat) : ∃ s4 s5 s6, lanes ((bytesN 8 x).map (popc 8)) + lanes ((bytesN 8 x).map (popc 8)) / 256 = s4 ∧ s4 < 18446744073709551616 ∧ s4 + s4 / 65536 = s5 ∧ s5 < 18446744073709551616 ∧ s5 + s5 / 4294967296 = s6 ∧ s6 < 18446744073709551616 ∧ s6 % 128 = popc 64 x := by
  rw [show 64 = 8 * 8 from rfl, ← popc_bytes 8 x]
  have hn := bytesN_length 8 x
  generalize bytesN 8 x = ys at *
  match ys, hn with
  | [a, b, c, d, e, f, g, h], _ =>
    simp only [List.map_cons, List.map_nil, lanes, List.sum_cons, List.sum_nil]
    have ha := popc_le 8 a
    generalize popc 8 a = a at *
    have hb := popc_le 8 b
    generalize popc 8 b = b at *
    have hc := popc_le 8 c
    generalize popc 8 c = c at *
    have hd := popc_le 8 d
    generalize popc 8 d = d at *
    have he := popc_le 8 e
    generalize popc 8 e = e at *
    have hf := popc_le 8 f
    generalize popc 8 f = f at *
    have hg := popc_le 8 g
    generalize popc 8 g = g at *
    have hh := popc_le 8 h
    generalize popc 8 h = h at *
    refine ⟨_, _, _, last4 a b c d e f g h ha hb hc hd he hf hg hh, ?_, last5 a b c d e f g h ha hb hc hd he hf hg hh, ?_, last6 a b c d e f g h ha hb hc hd he hf hg hh, ?_, ?_⟩ <;> omega
end Go.Amb
