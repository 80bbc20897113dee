/- The chapter's examples answer true: the closed law WaitKnown of the layer wait returns true, whatever order the program's open choices take; no conditions. -/
import Derived.Test.YtdabbamabgfeoaaGreatRows
import Derived.WalkKit
import Derived.ProofKit
import Derived.OpenShut
import Derived.Test.YtdabbamabgfeoaaGreatWkZ
namespace Go.Proofs.YtdabbamabgfeoaaGreat.waitKnown
open Go.ChangeShapes Go.WideShapes Go.ChangeAt Go.RowKit

theorem own : ownKnob Tryz.prog.godebug = none := by kernel_rfl

theorem walk (w : World) : Calls Tryz.prog 4 #[] w fun e w' => e = .returned (.bool true) ∧ Grown w w' := Go.Eng.FnC.calls (Go.Eng.cn46 Go.Eng.Sto.empty) w

set_option maxRecDepth 100000 in
theorem lifted (os : Os) (started : os.Started) (H : Type) (enc : TypeId × Value → H) :
    ReturnsInHanded {} Tryz.checked os 4 .any (Rows.waitKnownSpec.pre6 enc Tryz.prog Tryz.f4 Rows.waitKnownRow.domain false) (Rows.waitKnownSpec.post enc Tryz.prog Tryz.f4 false true false false) := by
  refine returnsInHanded_of_change (C := Tryz.checked) own started (by kernel_rfl) Tryz.func4
    (ChangeSpec.witness6 (enc := enc) (C := Tryz.checked) false ⟨#[], #[], []⟩ 8 (by kernel_rfl) (by kernel_rfl) (by kernel_rfl) (by kernel_rfl)) ?_
  intro W base args ds gs before hval0 hW hcnd _
  have hval : ∀ (j : Nat) t v, Tryz.f4.params[j]? = some t → args[j]? = some v → Value.okWide Tryz.prog W .any base t v := hval0
  have hW' := hW
  obtain ⟨p, q, hA0, hV, rfl, hfz, hnd⟩ := hW
  have hA : DataW.TrodAll enc Tryz.prog W 0 (fun _ => true) true Tryz.f4.params.toList args.toList ds p := hA0
  rw [Tryz.params4] at hA hval
  obtain ⟨rfl, rfl, rfl⟩ := trodAll_none hA
  obtain ⟨rfl, rfl⟩ := trodVars_none hV
  clear hA0 hval0
  simp only [List.append_nil] at hW'
  refine (walk  W).mono fun e W' ⟨he, hg⟩ => ?_
  subst he
  exact ⟨_, rfl, post_of_same (pa := []) (pv := []) hW' (fun _ _ _ => (trodAll_cons_mk (shut_bool Tryz.underlying4 _) trodAll_mk0)) (fun sp _ => rfl) (fun _ _ => rfl) rfl
    (hg.frame _) hg.2.1 (ok_one (by kernel_rfl) rfl (okWide_bool_mk Tryz.underlying4 _))⟩

theorem kNamed : Tryz.pinned.checked.prog.funcNamed Rows.waitKnownRow.func = some 4 := by kernel_rfl
theorem k1 : laidOutB Tryz.pinned.checked.prog = true := by kernel_rfl
theorem k2 : mapsRowed Tryz.pinned.checked.prog = true := by kernel_rfl
theorem k3 : (Tryz.pinned.checked.prog.stops == []) = true := by kernel_rfl
theorem k4 : (Tryz.pinned.checked.prog.stopKnobs == []) = true := by kernel_rfl
theorem k5 : (Rows.waitKnownRow.inPlace == Tryz.pinned.checked.prog.inPlace 4) = true := by kernel_rfl
theorem k6 : (Rows.waitKnownRow.unfollowed == Tryz.pinned.checked.prog.unfollowed 4) = true := by kernel_rfl
theorem k7 : (Rows.waitKnownRow.recurses == Tryz.pinned.checked.prog.recurses 4) = true := by kernel_rfl
theorem k8 : (Rows.waitKnownRow.named == Tryz.pinned.checked.prog.varsNamed 4) = true := by kernel_rfl
theorem k9 : (Rows.waitKnownRow.plainKeys == Tryz.pinned.checked.prog.plainKeys) = true := by kernel_rfl
theorem k10 : Tryz.pinned.checked.prog.stopsHeard = true := by kernel_rfl
theorem k11 : Tryz.pinned.checked.prog.mayEnter = true := by kernel_rfl
theorem k12 : (Rows.waitKnownRow.lifted == Tryz.pinned.checked.prog.liftsFinal) = true := by kernel_rfl
theorem facts : joinedFacts Tryz.pinned.checked.prog 4 Tryz.f4 Rows.waitKnownSpec Rows.waitKnownRow = true := by
  unfold joinedFacts
  rw [k1, k2, k3, k4, k5, k6, k7, k8, k9, k10, k11, k12]
  kernel_rfl
theorem inst : Tryz.f4.isInstance Tryz.pinned.checked.prog Rows.waitKnownRow.origin Rows.waitKnownRow.targs := of_decide_eq_true (by kernel_rfl)
theorem wrap : Tryz.f4.isWrapper Tryz.pinned.checked.prog Rows.waitKnownRow.wrapper Rows.waitKnownRow.mainSum := by
  unfold Func.isWrapper; first | (rw [if_pos (by decide +kernel)]; kernel_rfl) | (rw [if_neg (by decide +kernel)]; exact ⟨rfl, rfl⟩)

theorem over : Rows.waitKnownRow.holds Tryz.pinned (OpenSpec.ofChange Rows.waitKnownSpec) :=
  OpenClaim.holds_of_wide 4 Tryz.f4 rfl rfl rfl rfl rfl rfl rfl ⟨rfl, rfl, rfl, rfl, rfl⟩ rfl rfl rfl rfl rfl kNamed Tryz.func4 facts inst wrap
    (fun os started H enc _ => lifted os started H enc)

theorem proved : Rows.WaitKnownSaid :=
  over
end Go.Proofs.YtdabbamabgfeoaaGreat.waitKnown
