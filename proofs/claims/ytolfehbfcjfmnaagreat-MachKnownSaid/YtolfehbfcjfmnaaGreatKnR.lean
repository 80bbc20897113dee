/- Closed runs; no conditions. -/
import Derived.Test.YtolfehbfcjfmnaaGreatKnD
namespace Go.Eng
open Go.Proofs

theorem hSig : closed T1 Tryz.prog 4 13 60 164 [aSig] = some vSig := by kernel_rfl
theorem hVars0 : closed T3 Tryz.prog 60 13 60 63 [aSig, a0] = some vVars0 := by kernel_rfl
theorem hVars1 : closed T3 Tryz.prog 60 13 60 63 [aSig, a1] = some vVars1 := by kernel_rfl
theorem hVars2 : closed T3 Tryz.prog 60 13 60 63 [aSig, a2] = some vVars2 := by kernel_rfl
theorem hVars3 : closed T3 Tryz.prog 60 13 60 63 [aSig, a3] = some vVars3 := by kernel_rfl
theorem hVars4 : closed T3 Tryz.prog 60 13 60 63 [aSig, a4] = some vVars4 := by kernel_rfl
theorem hRun0 : closed T4l Tryz.prog 4 16 60 19 [vC, m0, .sc (.int .i64 50)] = some vRun0 := by kernel_rfl
theorem hRun1 : closed T4l Tryz.prog 4 16 60 19 [vC, m1, .sc (.int .i64 50)] = some vRun1 := by kernel_rfl
theorem hRun3 : closed T4l Tryz.prog 4 16 60 19 [vC, m3, .sc (.int .i64 50)] = some vRun3 := by kernel_rfl
theorem hRun4 : closed T4l Tryz.prog 4 16 60 19 [vC, m4, .sc (.int .i64 50)] = some vRun4 := by kernel_rfl
theorem hRan0 : closed T4r Tryz.prog 4 16 60 52 [b0] = some vRan0 := by kernel_rfl
theorem hRan1 : closed T4r Tryz.prog 4 16 60 52 [b1] = some vRan1 := by kernel_rfl
theorem hRan2 : closed T4r Tryz.prog 4 16 60 52 [b2] = some vRan2 := by kernel_rfl
theorem hRan3 : closed T4r Tryz.prog 4 16 60 52 [b3] = some vRan3 := by kernel_rfl
theorem hRan4 : closed T4r Tryz.prog 4 16 60 52 [b4] = some vRan4 := by kernel_rfl
theorem hKnown : closed T5 Tryz.prog 4 13 60 16 [] = some vKnown := by kernel_rfl
theorem hLaw : closed T6 Tryz.prog 4 8 60 5 [] = some vLaw := by kernel_rfl

end Go.Eng
