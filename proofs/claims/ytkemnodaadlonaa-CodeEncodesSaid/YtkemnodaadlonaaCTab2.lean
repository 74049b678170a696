/- What holds of each row of the tables. No statement of the seat is proved in this text. -/
import Derived.Test.YtkemnodaadlonaaCFind
import Derived.Test.YtkemnodaadlonaaAb32
set_option linter.unusedVariables false
set_option linter.unusedSimpArgs false
set_option maxRecDepth 100000
set_option maxHeartbeats 4000000
namespace Go.Proofs.Ytkemnodaadlonaa
open GAb Go

theorem tbl_small : (tbl.all fun x => decide (x.2.2.size ≤ 8) && decide (0 ≤ x.1 ∧ x.1 ≤ 569)) = true := by kernel_rfl
theorem find_mem {op : Int} {r : Rw} (h : findR op = some r) : r ∈ tbl ∧ r.1 = op := by
  unfold findR at h
  exact ⟨List.mem_of_find?_eq_some h, by simpa using List.find?_some h⟩
theorem sig_size (op : Int) : (sigP op).1.size ≤ 8 := by
  unfold sigP
  split
  · rename_i r h
    have := List.all_eq_true.1 tbl_small r (find_mem h).1
    simp at this
    exact this.1
  · decide

end Go.Proofs.Ytkemnodaadlonaa
