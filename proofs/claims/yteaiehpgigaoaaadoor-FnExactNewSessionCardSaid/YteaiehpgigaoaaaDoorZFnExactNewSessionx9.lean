-- Bundled by shake.py from this session's printed and written texts; Lean checks it.
import Derived.KernelRfl
import Derived.Test.YteaiehpgigaoaaaDoorZFnExactNewSessionx8
section
namespace Go.Proofs.YteaiehpgigaoaaaDoor.Pure
open Go.RowKit Go.Proofs.YteaiehpgigaoaaaDoor.PA Go.Proofs.YteaiehpgigaoaaaDoorW.PrintWords Go.Proofs.YteaiehpgigaoaaaDoorW.PrintLast Go.Proofs.YteaiehpgigaoaaaDoorW.PrintMore
set_option linter.unusedVariables false
set_option linter.unusedSimpArgs false
set_option maxRecDepth 100000 in
set_option maxHeartbeats 4000000 in
theorem FnExactNewSession : laws_FnExactNewSession.Pure := ⟨5000, by kernel_rfl⟩
end Go.Proofs.YteaiehpgigaoaaaDoor.Pure
end
