/- The document's examples: run by the kernel. -/
import Derived.Test.YtooppbhipihjaaaTie
namespace Ps
set_option linter.unusedSimpArgs false
open Go
theorem lives_run : pcall T 3000 57 [] St0 = some (.bool true, St0) := by kernel_rfl
end Ps
