/- '!=' of two supers, whichever they are. -/
import Derived.Test.YtgdkgnolkepgdaaMSuL
namespace Go.Proofs.Ytgdkgnolkepgdaa
set_option maxRecDepth 100000
open Go.RowKit Go.Amb
set_option linter.unusedVariables false
set_option linter.unusedSimpArgs false
theorem sup_neqG (a b c d e f a' b' c' d' e' f' : Int) (w : World) : (binOp .neq 23 (.agg #[.int .i64 a, .int .i64 b, .int .i64 c, .int .i64 d, .int .i64 e, .int .i64 f]) (.agg #[.int .i64 a', .int .i64 b', .int .i64 c', .int .i64 d', .int .i64 e', .int .i64 f'])).run Try.prog w =
    .ok (.bool (!decide ((⟨a, b, c, d, e, f⟩ : Sp) = ⟨a', b', c', d', e', f'⟩))) w := by
  have hs : Program.stoodInHeld Try.prog 23 = false := by kernel_rfl
  rw [run_neq_struct, run_equalIn_agg w 9999 23 _ _ (by kernel_rfl) hs]
  simp only [Program.fieldsOf, Try.underlying23]
  simp only [Sp.mk.injEq]
  by_cases h1 : a = a'
  · by_cases h2 : b = b'
    · by_cases h3 : c = c'
      · by_cases h4 : d = d'
        · by_cases h5 : e = e'
          · by_cases h6 : f = f'
            · simp [Op.eqFields, go_sem, h1, h2, h3, h4, h5, h6]
            · simp [Op.eqFields, go_sem, h1, h2, h3, h4, h5, h6]
          · simp [Op.eqFields, go_sem, h1, h2, h3, h4, h5]
        · simp [Op.eqFields, go_sem, h1, h2, h3, h4]
      · simp [Op.eqFields, go_sem, h1, h2, h3]
    · simp [Op.eqFields, go_sem, h1, h2]
  · simp [Op.eqFields, go_sem, h1]
end Go.Proofs.Ytgdkgnolkepgdaa
