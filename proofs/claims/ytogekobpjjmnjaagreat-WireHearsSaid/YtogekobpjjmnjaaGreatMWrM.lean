/- The reference: text, put, Bytes. -/
import Derived.Test.YtogekobpjjmnjaaGreatMWrJ
import Derived.Test.YtogekobpjjmnjaaGreatMWrI
namespace Go.Proofs.YtogekobpjjmnjaaGreat
open Go.RowKit Go.Amb
set_option linter.unusedVariables false
set_option linter.unusedSimpArgs false
set_option maxRecDepth 100000
attribute [local go_sem ↓] Go.wp_at_zero Go.wp_at_succ
theorem rText (s : List UInt8) (m : Nat) (w : World) (hs : s.length ≤ 140737488355328) (hm : m ≤ 8) :
    Calls Tryz.prog 63 #[.string ⟨s.toArray⟩, .int .i64 (m : Int)] w (Ret (.string ⟨(txtF s m).toArray⟩) w) := by
  go_enter Tryz.func63, Tryz.ntmps63
  go_wp2_with fail
  refine (refField _ m w (by omega) (by omega) hm).mono ?_
  rintro e w1 ⟨rfl, hu⟩
  have hl : (fld s.length m).length + s.length ≤ 9223372036854775807 := by rw [fld_length]; omega
  go_wp2_with fail
  go_ret
  exact ⟨congrArg (fun b => Ending.returned (.string b)) (ByteArray.mk_append_mk _ _), hu⟩
theorem str_snoc {l : List UInt8} {pF : UInt8 → List UInt8} {k : Nat} {c : UInt8} {x : List UInt8} (a : List UInt8) (hlt : k < l.length) (hc : l[k] = c) (hx : pF c = x) :
    Value.string ((⟨(a ++ (l.take k).flatMap pF).toArray⟩ : ByteArray) ++ ⟨x.toArray⟩) = .string ⟨(a ++ (l.take (k + 1)).flatMap pF).toArray⟩ := by
  rw [List.take_add_one, List.getElem?_eq_getElem hlt, Option.toList_some, List.flatMap_append, hc, List.flatMap_cons, List.flatMap_nil, List.append_nil, hx]
  rw [ByteArray.mk_append_mk, List.append_assoc]
end Go.Proofs.YtogekobpjjmnjaaGreat

namespace Go.Proofs.YtogekobpjjmnjaaGreat
open Go.RowKit Go.Amb
set_option linter.unusedVariables false
set_option linter.unusedSimpArgs false
set_option maxRecDepth 100000
def bytesT (q : Rq) : Array Value := if rightQ q then #[.string ⟨(putQ q).toArray⟩, .int .i64 0] else #[.string ⟨#[]⟩, .int .i64 4]
end Go.Proofs.YtogekobpjjmnjaaGreat
