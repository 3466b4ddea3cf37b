/- Parts: the sum. -/
import Derived.Test.YtddfdomhapaefaaParts
namespace Go.Proofs.Ytddfdomhapaefaa
open Go.RowKit
set_option linter.unusedVariables false
set_option linter.unusedSimpArgs false

theorem amtOk_t' {n : Int} (h : 0 ≤ n) (h' : n ≤ 1125899906842624) : amtOk n = true := decide_eq_true ⟨h, h'⟩
theorem amtOk_f' {n : Int} (h : 1125899906842624 < n) : amtOk n = false := decide_eq_false (by omega)

end Go.Proofs.Ytddfdomhapaefaa
