/- THE ROW's CLOSED FACTS OF THE PROGRAM. HeadStrict, for every input whose bulk is at most 1048576: in a head that is read nothing slips in, and what is printed of it is read the same. Conditions: the bound on the arguments, and the package's variables as the program's text lays them (the row's own list). -/
import Derived.Test.YtiofekhdicfmoaaGreatDoorMJ
import Derived.Test.YtiofekhdicfmoaaGreatDoorML
namespace Go.Proofs.YtiofekhdicfmoaaGreatDoor
open Go Go.Hr Go.ChangeShapes Go.WideShapes Go.ChangeAt Go.RowKit Go.Deep
set_option linter.all false
set_option maxRecDepth 100000
set_option maxHeartbeats 1000000
namespace pHeadStrict
theorem closed : joinedFacts Tryz.pinned.checked.prog 4 Tryz.f4 (Rows.OpenSpec.upto Rows.headStrictSpec).bare Rows.headStrictUptoRow = true := by
  unfold joinedFacts
  simp only [Bool.and_eq_true]
  refine ⟨⟨⟨⟨⟨⟨⟨⟨⟨⟨⟨⟨⟨⟨⟨⟨⟨⟨⟨⟨⟨⟨⟨⟨⟨⟨⟨⟨⟨⟨⟨?_, ?_⟩, ?_⟩, ?_⟩, ?_⟩, ?_⟩, ?_⟩, ?_⟩, ?_⟩, ?_⟩, ?_⟩, ?_⟩, ?_⟩, ?_⟩, ?_⟩, ?_⟩, ?_⟩, ?_⟩, ?_⟩, ?_⟩, ?_⟩, ?_⟩, ?_⟩, ?_⟩, ?_⟩, ?_⟩, ?_⟩, ?_⟩, ?_⟩, ?_⟩, ?_⟩, ?_⟩
  all_goals decide +kernel
theorem goes : false = (Rows.headStrictUptoRow).goesBy Tryz.pinned.checked.prog := by kernel_rfl
end pHeadStrict
end Go.Proofs.YtiofekhdicfmoaaGreatDoor
