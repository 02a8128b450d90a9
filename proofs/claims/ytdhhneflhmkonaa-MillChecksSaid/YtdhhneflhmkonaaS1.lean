/- The examples of 'sane', reckoned. -/
import Derived.Test.YtdhhneflhmkonaaTE
import Derived.Test.YtdhhneflhmkonaaW5
namespace Go.Proofs.Ytdhhneflhmkonaa
open Go.RowKit Go.Shelf

def ex : List Comer := [⟨7, 7, 4⟩, ⟨4, 6, 1⟩, ⟨9, 28, 3⟩, ⟨2, 24, 2⟩]
theorem ex_ok : okMill 6 ex = true := by decide +kernel
theorem ex_lev : levS ex 6 = 1 := by decide +kernel
theorem ex_hours : hoursS ex 6 = [2, 1, 1, 1] := by decide +kernel
theorem ex_demE : demE ex 6 [2, 1, 2, 1] = 0 := by decide +kernel
theorem ex_serves : servesS ex 6 [2, 1, 2, 1] = false := by decide +kernel
theorem ex_comesE : comesE ex 6 9 3 = 0 := by decide +kernel
theorem ex_comes : comesS ex 6 9 3 = 2 := by decide +kernel
theorem ex_idle : idleS ex 6 = [5] := by decide +kernel
theorem ex_movedE : movedE ex 6 2 = 0 := by decide +kernel
theorem ex_movedL : movedL ex 6 2 = [9] := by decide +kernel
theorem ex_moved : movedS ex 6 2 = [9] := by
  unfold movedS; rw [ex_movedE, ex_movedL]; simp [srt]
theorem ex_share : shareE ex 6 [7, 4, 9, 2, 2, 0] = 53 := by decide +kernel
theorem ex_bunE : bunE ⟨40, 60, 16⟩ ⟨4, 4⟩ = 0 := by decide +kernel
theorem ex_bunV : bunV ⟨40, 60, 16⟩ ⟨4, 4⟩ = ⟨7, 12⟩ := by decide +kernel
end Go.Proofs.Ytdhhneflhmkonaa
