/- Contracts without objects: they hold in every store; no conditions. -/
import Derived.Test.YtdabbamabgfeoaaGreatEngP
namespace Go.Eng
noncomputable section

mutual
def pureV : AV → Bool
  | .sc _ => true
  | .agg cs => pureL cs
  | .nils => true
  | .nilS => true
  | .lit es => pureL es
  | .lptr cs => pureL cs
  | .ptr _ _ _ => false
  | .sref _ _ _ => false
  | .mapr _ => false
  | .fn _ a b => match pureL a with
    | true => pureL b
    | false => false
  | .ifc _ v => pureV v
  | .tup vs => pureL vs
  | .yld _ => false
  | .clip v => pureV v
  | .top => true
def pureL : List AV → Bool
  | [] => true
  | v :: r => match pureV v with
    | true => pureL r
    | false => false
end

theorem pureL_get {l : List AV} (h : pureL l = true) : ∀ {k : Nat} {a : AV}, l[k]? = some a → pureV a = true := by
  induction l with
  | nil => intro k a e; simp at e
  | cons v r ih =>
    intro k a e
    simp only [pureL] at h
    split at h <;> try (simp at h; done)
    rename_i hv
    cases k with
    | zero => simp at e; subst e; exact hv
    | succ k => exact ih h (by simpa using e)
theorem pureV_cells {e : AV} (h : pureV e = true) {j : Nat} {a : AV} (he : e.cells[j]? = some a) : pureV a = true := by
  cases e with
  | agg cs => exact pureL_get (l := cs) (by simpa [pureV] using h) he
  | _ =>
    cases j with
    | zero => simp [AV.cells] at he; subst he; exact h
    | succ j => simp [AV.cells] at he

def Gh.bare (g : Gh) : Gh := { ro := g.ro, ph := fun _ => none }

theorem VR.bare {g : Gh} {v : AV} {x : Value} (h : VR g v x) (hp : pureV v = true) : VR g.bare v x := by
  induction h with
  | sc h => exact .sc h
  | agg hl _ ih => exact .agg hl fun k a x e e' => ih k a x e e' (pureL_get (by simpa [pureV] using hp) e)
  | nils => exact .nils
  | nilS => exact .nilS
  | lit hr hs hb hcap _ ih => exact .lit hr hs hb hcap fun i j e a x p q r => ih i j e a x p q r (pureV_cells (pureL_get (by simpa [pureV] using hp) p) q)
  | lit0 => exact .lit0
  | lptr hr hb _ ih => exact .lptr hr hb fun j a x p q => ih j a x p q (pureL_get (by simpa [pureV] using hp) p)
  | ptr hl => simp [pureV] at hp
  | sref hl hc hb => simp [pureV] at hp
  | srefz => simp [pureV] at hp
  | mapr hl => simp [pureV] at hp
  | fn hx hy _ _ ih ih' =>
    simp only [pureV] at hp
    split at hp <;> try (simp at hp; done)
    rename_i ha
    exact .fn hx hy (fun k a x e e' => ih k a x e e' (pureL_get ha e)) (fun k a x e e' => ih' k a x e e' (pureL_get hp e))
  | ifc _ ih => exact .ifc (ih (by simpa [pureV] using hp))
  | tup hl _ ih => exact .tup hl fun k a x e e' => ih k a x e e' (pureL_get (by simpa [pureV] using hp) e)
  | yld hl => simp [pureV] at hp
  | clip _ ih => exact .clip (ih (by simpa [pureV] using hp))
  | top => exact .top

/- The same contract in every store. -/
theorem FnC.frame {P : Program} {f : FuncId} {args : List AV} {v : AV} (ha : pureL args = true) (hv : pureV v = true) (h : FnC P f args Sto.empty fun r _ => r = .ret v) (S : Sto) :
    FnC P f args S fun r S' => r = .ret v ∧ S' = S := by
  intro g w xs hx hi
  have hi0 : Inv Sto.empty g.bare w := ⟨hi.ro, fun id o e => by rw [Sto.get_empty] at e; simp at e, fun id id' o o' l l' e => by rw [Sto.get_empty] at e; simp at e, fun _ _ => rfl⟩
  have hx0 : VRs g.bare args xs := ⟨hx.1, fun k a x e e' => (hx.2 k a x e e').bare (pureL_get ha e)⟩
  refine (h g.bare w xs hx0 hi0).mono fun e w' ⟨r, S', g', hr, hres, hi', hxt⟩ => ?_
  subst hr
  obtain ⟨gn, hgn⟩ : ∃ k : Gh, k = { ro := g'.ro, ph := g.ph } := ⟨_, rfl⟩
  have hno : ∀ b c, g'.ro b = some c → b < w.heap.size → g.ro b = some c := by
    intro b c e hb
    rcases hxt.ron b c e hb with q | ⟨id0, o0, l0, q, _⟩
    · exact q
    · rw [Sto.get_empty] at q; simp at q
  have hkeep : ∀ b, b < w.heap.size → w'.heap[b]? = w.heap[b]? := fun b hb => hxt.keep b hb fun id o l e => by rw [Sto.get_empty] at e; simp at e
  have hle : Gh.le g gn := by subst hgn; exact ⟨fun b c e => hxt.gle.ro b c e, fun _ _ e => e⟩
  have hle' : Gh.le g'.bare gn := by subst hgn; exact ⟨fun _ _ e => e, fun _ _ e => by simp [Gh.bare] at e⟩
  refine ⟨.ret v, S, gn, ⟨rfl, rfl⟩, ?_, ⟨?_, ?_, ?_, ?_⟩, ⟨hxt.size, hxt.os, hxt.tape, hxt.output, fun b hb _ => hkeep b hb, ?_, hle, Nat.le_refl _, rfl, fun _ _ => rfl, ?_, ?_, ?_, hxt.fz⟩⟩
  · cases e with
    | returned x => exact (VR.bare hres hv).mono hle'
    | panicked c => exact hres.elim
    | outgrown => exact hres.elim
  · intro b c e; subst hgn; exact hi'.ro b c e
  · intro id o e
    obtain ⟨l, a, b, c⟩ := hi.ob id o e
    refine ⟨l, hle.ph _ _ a, ?_, ?_⟩
    · subst hgn
      cases hr : g'.ro l.blk with
      | none => rfl
      | some cc => rw [hno _ _ hr c.lt] at b; simp at b
    · rw [hkeep _ c.lt]; exact c.mono hle
  · intro id id' o o' l l' e e' p p' hb
    subst hgn; exact hi.inj id id' o o' l l' e e' p p' hb
  · intro id hid; subst hgn; exact hi.fresh id hid
  · intro id o l e e1 e2 e3
    subst hgn; exact ⟨id, o, l, e, e1, e2, rfl⟩
  · intro id _; subst hgn; rfl
  · intro b c e hb; subst hgn; exact .inl (hno b c e hb)
  · exact fun _ _ e => e

end
end Go.Eng
