/- The ways between the controller's states: each is found, by the kernel. No program. -/
import Derived.Test.YtkloolhngddpiaaChkP
namespace Go.Proofs.Ytkloolhngddpiaa
set_option maxRecDepth 100000
theorem chkW_ok : all80 chkW 80 = true := by decide +kernel
end Go.Proofs.Ytkloolhngddpiaa
