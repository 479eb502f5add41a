/- step: whatever the act. -/
import Derived.Test.YtgkiglodhhlnmaaBmJ
namespace Go.Proofs.Ytgkiglodhhlnmaa
open Go.RowKit Go.Amb Go.Shelf
set_option linter.unusedVariables false
set_option linter.unusedSimpArgs false
theorem lStep {B : Nat → Prop} {w0 w : World} {D : Nat} {F : Nat → Prop} {d r : Dk} {kv pv : Value} (h : Bth B w0 w D F d r kv pv) (hs : Same d r) (hP : d.P.length ≤ 1000) (kind i : Int) (s : List UInt8) (va : Option Addr) (q vc : Nat) (keep : List Int)
    (hi2 : i < 9223372036854775808) (hI : Ints w (.slice va q vc) keep) (hq : keep.length ≤ 300) (hsl : s.length ≤ 1000) :
    Calls Try.prog 20 #[.pointer (some ⟨D, 0, none⟩), rfv r kv pv, .agg #[.int .i64 kind, .int .i64 i, .string ⟨s.toArray⟩, .slice va q vc]] w (Stp B w0 w F d) := by
  by_cases h1 : kind = 1
  · subst h1; exact stepFlush h hs (by omega) i s va q vc
  by_cases h2 : kind = 2
  · subst h2; exact stepCrash h hs (by omega) i s va q vc keep hI hq
  by_cases h3 : kind = 3
  · subst h3; exact stepArm h hs (by omega) i s va q vc hi2
  by_cases h4 : kind = 4
  · subst h4; exact stepRead h hs (by omega) i s va q vc
  by_cases h5 : kind = 5
  · subst h5; exact stepCopy h hs hP i s va q vc
  exact stepWrite h hs (by omega) kind (by omega) i s va q vc hsl
theorem rfv_lit2 {w : World} {r : Dk} {kv pv : Value} (h : RAt w r kv pv) : ∃ m ka kn kc pa pn pc f dd, rfv r kv pv = .agg #[.int .i64 m, .slice ka kn kc, .slice pa pn pc, .int .i64 f, .bool dd] ∧ pn = r.P.length ∧ dd = r.dd := by
  obtain ⟨_, ka, kc, rfl, -⟩ := id h.k
  obtain ⟨_, pa, pcp, rfl, -⟩ := id h.p
  exact ⟨_, _, _, _, _, _, _, _, _, rfl, rfl, rfl⟩
theorem same_new (n : Nat) : Same (Dk.new n) ⟨List.replicate n [], [], -1, false⟩ := by
  refine ⟨?_, ?_, rfl, rfl, rfl⟩
  · show List.replicate n (List.replicate 128 0) = (List.replicate n []).map full
    rw [List.map_replicate]; rfl
  · intro s hs
    rw [List.eq_of_mem_replicate hs]; exact Nat.zero_le _
end Go.Proofs.Ytgkiglodhhlnmaa
