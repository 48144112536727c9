/- alive answers true: reckoned. -/
import Derived.Test.YtmaipfiikbcfmaaDoorRxEv
set_option linter.all false
namespace Go.Vm.Rx
open Go.Proofs
set_option maxRecDepth 100000
def isTrue : ORes → Bool
  | some (.ret (.bool true), _) => true
  | _ => false
theorem alive_ev : isTrue (ev 100000 100 12 [] []) = true := by kernel_rfl
theorem alive_run : ∃ A', Run Tryd.prog rxH 12 [] [] = some (.ret (.bool true), A') := by
  have h := alive_ev
  revert h
  cases hr : ev 100000 100 12 [] [] with
  | none => intro h; cases h
  | some r =>
    intro h
    obtain ⟨d, A'⟩ := r
    unfold isTrue at h
    split at h
    · rename_i A'' e
      cases e
      exact ⟨_, ev_le _ _ _ _ _ _ hr⟩
    · cases h
end Go.Vm.Rx
