/- From a contract to a row of a law; no conditions. -/
import Derived.Test.YtdabbamabgfeoaaGreatEngX
import Derived.RowKit3
namespace Go.Eng

theorem Ext.grown {g g' : Gh} {w w' : World} {S' : Sto} (h : Ext Sto.empty g w S' g' w') : RowKit.Grown w w' := by
  refine ⟨⟨h.os, h.output, fun i hi => ?_⟩, h.fz, h.size⟩
  have := h.keep i hi fun id o l e => by rw [Sto.get_empty] at e; simp at e
  rw [this]
  cases w.heap[i]? with
  | none => rfl
  | some o => cases o <;> first | rfl | exact ⟨rfl, rfl, rfl, fun _ _ => rfl⟩ | exact .inr ⟨rfl, rfl⟩

/- A closed function that answers true. -/
theorem FnC.calls {P : Program} {f : FuncId} (h : FnC P f [] Sto.empty fun r S' => r = .ret (.sc (.bool true)) ∧ S' = Sto.empty) (w : World) : Calls P f #[] w fun e w' => e = .returned (.bool true) ∧ RowKit.Grown w w' := by
  have hi : Inv Sto.empty ⟨fun _ => none, fun _ => none⟩ w := ⟨fun b c e => by simp at e, fun id o e => by rw [Sto.get_empty] at e; simp at e, fun id id' o o' l l' e => by rw [Sto.get_empty] at e; simp at e, fun _ _ => rfl⟩
  refine (h _ w #[] (VRs.nil _) hi).mono fun e w' ⟨r, S', g', ⟨hr, _⟩, hres, _, hx⟩ => ⟨?_, hx.grown⟩
  subst hr
  cases e with
  | returned x => cases hres; rfl
  | panicked c => exact hres.elim
  | outgrown => exact hres.elim

end Go.Eng
