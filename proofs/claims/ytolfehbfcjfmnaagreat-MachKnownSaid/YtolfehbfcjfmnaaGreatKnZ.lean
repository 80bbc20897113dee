/- Closed runs, joined; no conditions. -/
import Derived.Test.YtolfehbfcjfmnaaGreatKnC
import Derived.Test.YtolfehbfcjfmnaaGreatKnStr
import Derived.Test.YtolfehbfcjfmnaaGreatKnRun2
import Derived.Test.YtolfehbfcjfmnaaGreatKnR
import Derived.Test.YtolfehbfcjfmnaaGreatEngY
namespace Go.Eng
open Go.Proofs

theorem T1.ok : TabOk T1 Tryz.prog := ((((T0.ok.ext (by decide) (extFork_sound T0.ok mixed)).ext (by decide) (extFrz_sound T0.ok mixed)).ext (by decide) (extFrz_sound T0.ok mixed)).ext (by decide) (extFrz_sound T0.ok mixed))
theorem cC (S : Sto) : FnC Tryz.prog 101 [] S fun r S' => r = .ret vC ∧ S' = S := closed_frame T1.ok mixed hC (by kernel_rfl) (by kernel_rfl) S
theorem cSig (S : Sto) : FnC Tryz.prog 164 [aSig] S fun r S' => r = .ret vSig ∧ S' = S := closed_frame T1.ok mixed hSig (by kernel_rfl) (by kernel_rfl) S
theorem T2.ok : TabOk T2 Tryz.prog := (T1.ok.ext (by decide) (extTab_sound (TabFn.cons cSig TabFn.nil)))
theorem cStr (S : Sto) : FnC Tryz.prog 60 [vC] S fun r S' => r = .ret vStr ∧ S' = S := closed_frame T2.ok mixed hStr (by kernel_rfl) (by kernel_rfl) S
theorem T3.ok : TabOk T3 Tryz.prog := ((T2.ok.ext (by decide) (extTab_sound (TabFn.cons cC TabFn.nil))).ext (by decide) (extTab_sound (TabFn.cons cStr TabFn.nil)))
theorem cVars0 (S : Sto) : FnC Tryz.prog 63 [aSig, a0] S fun r S' => r = .ret vVars0 ∧ S' = S := closed_frame T3.ok mixed hVars0 (by kernel_rfl) (by kernel_rfl) S
theorem cVars1 (S : Sto) : FnC Tryz.prog 63 [aSig, a1] S fun r S' => r = .ret vVars1 ∧ S' = S := closed_frame T3.ok mixed hVars1 (by kernel_rfl) (by kernel_rfl) S
theorem cVars2 (S : Sto) : FnC Tryz.prog 63 [aSig, a2] S fun r S' => r = .ret vVars2 ∧ S' = S := closed_frame T3.ok mixed hVars2 (by kernel_rfl) (by kernel_rfl) S
theorem cVars3 (S : Sto) : FnC Tryz.prog 63 [aSig, a3] S fun r S' => r = .ret vVars3 ∧ S' = S := closed_frame T3.ok mixed hVars3 (by kernel_rfl) (by kernel_rfl) S
theorem cVars4 (S : Sto) : FnC Tryz.prog 63 [aSig, a4] S fun r S' => r = .ret vVars4 ∧ S' = S := closed_frame T3.ok mixed hVars4 (by kernel_rfl) (by kernel_rfl) S
theorem T4.ok : TabOk T4 Tryz.prog := (T3.ok.ext (by decide) (extTab_sound (TabFn.cons cVars0 (TabFn.cons cVars1 (TabFn.cons cVars2 (TabFn.cons cVars3 (TabFn.cons cVars4 TabFn.nil)))))))
theorem T4l.ok : TabOk T4l Tryz.prog := (T4.ok.ext (by decide) (extFrz_sound T4.ok mixed))
theorem cRun0 (S : Sto) : FnC Tryz.prog 19 [vC, m0, .sc (.int .i64 50)] S fun r S' => r = .ret vRun0 ∧ S' = S := closed_frame T4l.ok mixed hRun0 (by kernel_rfl) (by kernel_rfl) S
theorem cRun1 (S : Sto) : FnC Tryz.prog 19 [vC, m1, .sc (.int .i64 50)] S fun r S' => r = .ret vRun1 ∧ S' = S := closed_frame T4l.ok mixed hRun1 (by kernel_rfl) (by kernel_rfl) S
theorem cRun2 (S : Sto) : FnC Tryz.prog 19 [vC, m2, .sc (.int .i64 50)] S fun r S' => r = .ret vRun2 ∧ S' = S := closed_frame T4l.ok mixed hRun2 (by kernel_rfl) (by kernel_rfl) S
theorem cRun3 (S : Sto) : FnC Tryz.prog 19 [vC, m3, .sc (.int .i64 50)] S fun r S' => r = .ret vRun3 ∧ S' = S := closed_frame T4l.ok mixed hRun3 (by kernel_rfl) (by kernel_rfl) S
theorem cRun4 (S : Sto) : FnC Tryz.prog 19 [vC, m4, .sc (.int .i64 50)] S fun r S' => r = .ret vRun4 ∧ S' = S := closed_frame T4l.ok mixed hRun4 (by kernel_rfl) (by kernel_rfl) S
theorem T4r.ok : TabOk T4r Tryz.prog := (T4l.ok.ext (by decide) (extTab_sound (TabFn.cons cRun0 (TabFn.cons cRun1 (TabFn.cons cRun2 (TabFn.cons cRun3 (TabFn.cons cRun4 TabFn.nil)))))))
theorem cRan0 (S : Sto) : FnC Tryz.prog 52 [b0] S fun r S' => r = .ret vRan0 ∧ S' = S := closed_frame T4r.ok mixed hRan0 (by kernel_rfl) (by kernel_rfl) S
theorem cRan1 (S : Sto) : FnC Tryz.prog 52 [b1] S fun r S' => r = .ret vRan1 ∧ S' = S := closed_frame T4r.ok mixed hRan1 (by kernel_rfl) (by kernel_rfl) S
theorem cRan2 (S : Sto) : FnC Tryz.prog 52 [b2] S fun r S' => r = .ret vRan2 ∧ S' = S := closed_frame T4r.ok mixed hRan2 (by kernel_rfl) (by kernel_rfl) S
theorem cRan3 (S : Sto) : FnC Tryz.prog 52 [b3] S fun r S' => r = .ret vRan3 ∧ S' = S := closed_frame T4r.ok mixed hRan3 (by kernel_rfl) (by kernel_rfl) S
theorem cRan4 (S : Sto) : FnC Tryz.prog 52 [b4] S fun r S' => r = .ret vRan4 ∧ S' = S := closed_frame T4r.ok mixed hRan4 (by kernel_rfl) (by kernel_rfl) S
theorem T5.ok : TabOk T5 Tryz.prog := (T4r.ok.ext (by decide) (extTab_sound (TabFn.cons cRan0 (TabFn.cons cRan1 (TabFn.cons cRan2 (TabFn.cons cRan3 (TabFn.cons cRan4 TabFn.nil)))))))
theorem cKnown (S : Sto) : FnC Tryz.prog 16 [] S fun r S' => r = .ret vKnown ∧ S' = S := closed_frame T5.ok mixed hKnown (by kernel_rfl) (by kernel_rfl) S
theorem T6.ok : TabOk T6 Tryz.prog := (T5.ok.ext (by decide) (extTab_sound (TabFn.cons cKnown TabFn.nil)))
theorem cLaw (S : Sto) : FnC Tryz.prog 5 [] S fun r S' => r = .ret vLaw ∧ S' = S := closed_frame T6.ok mixed hLaw (by kernel_rfl) (by kernel_rfl) S

end Go.Eng
