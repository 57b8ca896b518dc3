/- The sum of a million letters a. -/
import Derived.Test.YtefobboakikpbaaDoorMil1
import Derived.Test.YtefobboakikpbaaDoorMil2
import Derived.Test.YtefobboakikpbaaDoorMil3
import Derived.Test.YtefobboakikpbaaDoorMil4
import Derived.Test.YtefobboakikpbaaDoorMil5
namespace Go.Proofs.YtefobboakikpbaaDoor
theorem mil_all : manyW kwA start 15625 = ⟨2061136107, 1745259042, 791610055, 2140370626, 1884297759, 3529239238, 671294972, 693152569⟩ := by
  rw [show (15625 : Nat) = 3125 + (3125 + (3125 + (3125 + 3125))) from rfl, manyW_add, show start = ⟨1779033703, 3144134277, 1013904242, 2773480762, 1359893119, 2600822924, 528734635, 1541459225⟩ from rfl, mil0_25, manyW_add, mil1_25, manyW_add, mil2_25, manyW_add, mil3_25, mil4_25]
theorem sha_million : sha (List.replicate 1000000 97) = [205, 199, 110, 92, 153, 20, 251, 146, 129, 161, 199, 226, 132, 215, 62, 103, 241, 128, 154, 72, 164, 151, 32, 14, 4, 109, 57, 204, 199, 17, 44, 208] := by
  rw [shaA _ ⟨3452399196, 2568289170, 2174863330, 2228698727, 4051737160, 2761367566, 74267084, 3339791568⟩ mil_all (by decide +kernel)]; decide +kernel
end Go.Proofs.YtefobboakikpbaaDoor
