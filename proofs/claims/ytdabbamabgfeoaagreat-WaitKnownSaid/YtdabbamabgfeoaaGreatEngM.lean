/- Regions that draw the order of their operations: every order comes to the same; no conditions. -/
import Derived.Test.YtdabbamabgfeoaaGreatEngL
import Derived.Orders
namespace Go.Eng
noncomputable section

def Gh.cut (g : Gh) (n : Nat) : Gh := { ro := g.ro, ph := fun id => if id < n then g.ph id else none }
theorem Gh.cut_lt {g : Gh} {n id : Nat} {l : Loc} (h : (g.cut n).ph id = some l) : id < n ∧ g.ph id = some l := by
  simp only [Gh.cut] at h
  split at h
  · exact ⟨by assumption, h⟩
  · simp at h
theorem Gh.cut_of {g : Gh} {n id : Nat} {l : Loc} (hn : id < n) (h : g.ph id = some l) : (g.cut n).ph id = some l := by simp [Gh.cut, hn, h]
theorem Gh.cut_le (g : Gh) (n : Nat) : Gh.le (g.cut n) g := ⟨fun _ _ e => e, fun _ _ e => (Gh.cut_lt e).2⟩
theorem Gh.cut_cut {g g' : Gh} (h : Gh.le g g') {n m : Nat} (hn : n ≤ m) : Gh.le (g.cut n) (g'.cut m) :=
  ⟨h.ro, fun _ _ e => let ⟨a, b⟩ := Gh.cut_lt e; Gh.cut_of (Nat.lt_of_lt_of_le a hn) (h.ph _ _ b)⟩

/- What one operation of a drawn region does, from the store that it may see. -/
def OpC (P : Program) (all : Array Oper) (o : Oper) (get : Nat → Option AV) (E : Sto) (v : AV) (E' : Sto) : Prop :=
  ∀ (g : Gh) (w : World) (fr : Frame) (cs : List Frame) (i : Nat) (rest : List Nat) (m : List Item), fr.mode = .run → fr.todo = .inRegion all (i :: rest) :: m → all[i]? = some o →
    (∀ t, t ∈ o.looksAt all → ∀ u, get t = some u → ∃ x, fr.tmps[t]? = some x ∧ VR g u x) → Inv E g w →
    ∃ w' g' x, Steps P (lone fr cs w) (lone (fr.finish x) cs w') ∧ VR g' v x ∧ Inv E' g' w' ∧ Ext E g w E' g' w'

section
variable (ops : Array Oper) (F : AFrame) (S : Sto) (pm : Nat → Nat → Bool) (E E' : Nat → Sto) (v : Nat → AV) (ch : Nat → Nat → Option (Option AObj))

def nn : Nat → Nat
  | 0 => S.nx
  | i + 1 => (E' i).nx
def dstOf (i : Nat) : Option Tmp := match ops[i]? with
  | some o => o.dst
  | none => none
def sv (X : Nat → Bool) : Nat → Nat → Option (AV × Nat)
  | 0, t => match F.get t with
    | some u => some (u, S.nx)
    | none => none
  | m + 1, t => if X m = true ∧ dstOf ops m = some t ∧ t < F.n then some (v m, nn S E' (m + 1)) else sv X m t
def ov (X : Nat → Bool) : Nat → Nat → Option (AObj × Nat)
  | 0, id => match S.get id with
    | some o => some (o, S.nx)
    | none => none
  | m + 1, id => if X m = true then match ch m id with
    | some (some o) => some (o, nn S E' (m + 1))
    | some none => none
    | none => ov X m id else ov X m id

structure DP (P : Program) (n : Nat) : Prop where
  nxE : ∀ i, i < n → (E i).nx = nn S E' i
  mono : ∀ i, i < n → (E i).nx ≤ (E' i).nx
  lim : ∀ i, i < n → S.lim ≤ (E i).lim
  see : ∀ i, i < n → ∀ id o, (E i).get id = some o → ∃ st, ov S E' ch (pm i) i id = some (o, st)
  apartL : ∀ i, i < n → ∀ j, j < i → pm i j = false → ∀ id, ch j id ≠ none → (E i).get id = none
  apartR : ∀ i, i < n → ∀ j, j < n → i < j → pm j i = false → ∀ id, ch j id ≠ none → id < (E j).nx → (E i).get id = none
  chE : ∀ i, i < n → ∀ id o, ch i id = some (some o) → (E' i).get id = some o
  chC : ∀ i, i < n → ∀ id o, (E i).get id = some o → (E i).lim ≤ id → ch i id ≠ none
  chL : ∀ i, i < n → ∀ id, ch i id ≠ none → (E i).lim ≤ id ∧ id < (E' i).nx
  chN : ∀ i, i < n → ∀ id, ch i id ≠ none → (E i).get id ≠ none ∨ (E i).nx ≤ id
  op : ∀ i, i < n → ∃ o, ops[i]? = some o ∧ OpC P ops o (fun t => match sv ops F S E' v (fun _ => true) i t with
    | some (u, _) => some u
    | none => none) (E i) (v i) (E' i)

/- What holds when the operations of X are done. -/
structure DJ (X : Nat → Bool) (n : Nat) (g0 : Gh) (w0 : World) (fr0 : Frame) (g : Gh) (w : World) (fr : Frame) : Prop where
  slots : ∀ t u st, sv ops F S E' v X n t = some (u, st) → ∃ x, fr.tmps[t]? = some x ∧ VR (g.cut st) u x
  ob : ∀ id o st, ov S E' ch X n id = some (o, st) → ∃ l, (g.cut st).ph id = some l ∧ g.ro l.blk = none ∧ ObR (g.cut st) l w.heap[l.blk]? o
  inj : ∀ id id' o o' st st' l l', ov S E' ch X n id = some (o, st) → ov S E' ch X n id' = some (o', st') → g.ph id = some l → g.ph id' = some l' → l.blk = l'.blk → id = id'
  ro : ∀ b c, g.ro b = some c → ∃ t fz, w.heap[b]? = some (.cells c t fz)
  dom : ∀ id l, g.ph id = some l → id < S.nx ∨ ∃ j, j < n ∧ X j = true ∧ nn S E' j ≤ id ∧ id < nn S E' (j + 1)
  size : w0.heap.size ≤ w.heap.size
  os : w.os = w0.os
  tape : w.tape = w0.tape
  output : w.output = w0.output
  keep : ∀ b, b < w0.heap.size → (∀ id o l, S.get id = some o → S.lim ≤ id → g0.ph id = some l → l.blk ≠ b) → w.heap[b]? = w0.heap[b]?
  own : ∀ id o st l, ov S E' ch X n id = some (o, st) → S.lim ≤ id → g.ph id = some l → l.blk < w0.heap.size → ∃ id0 o0 l0, S.get id0 = some o0 ∧ S.lim ≤ id0 ∧ g0.ph id0 = some l0 ∧ l0.blk = l.blk
  gle : Gh.le g0 g
  old : ∀ id, id < S.nx → g.ph id = g0.ph id
  ron : ∀ b c, g.ro b = some c → b < w0.heap.size → g0.ro b = some c ∨ ∃ id0 o0 l0, S.get id0 = some o0 ∧ S.lim ≤ id0 ∧ g0.ph id0 = some l0 ∧ l0.blk = b
  fz : ∀ a, w.frozen? a = w0.frozen? a
  fsize : fr.tmps.size = F.n
  frame : fr = { fr0 with tmps := fr.tmps, todo := fr.todo }
end

section
variable {ops : Array Oper} {F : AFrame} {S : Sto} {pm : Nat → Nat → Bool} {E E' : Nat → Sto} {v : Nat → AV} {ch : Nat → Nat → Option (Option AObj)}

def addX (X : Nat → Bool) (i : Nat) : Nat → Bool := fun j => if j = i then true else X j

theorem nn_mono {P : Program} {n : Nat} (h : DP ops F S pm E E' v ch P n) {i j : Nat} (hij : i ≤ j) (hj : j ≤ n) : nn S E' i ≤ nn S E' j := by
  induction j with
  | zero => have : i = 0 := by omega
            subst this; exact Nat.le_refl _
  | succ j ih =>
    by_cases e : i = j + 1
    · subst e; exact Nat.le_refl _
    · have h1 := ih (by omega) (by omega)
      have h2 := h.mono j (by omega)
      rw [h.nxE j (by omega)] at h2
      exact Nat.le_trans h1 h2

theorem sv_stage {P : Program} {n : Nat} (h : DP ops F S pm E E' v ch P n) {X : Nat → Bool} : ∀ {m : Nat}, m ≤ n → ∀ {t u st}, sv ops F S E' v X m t = some (u, st) → st ≤ nn S E' m := by
  intro m
  induction m with
  | zero =>
    intro _ t u st e
    simp only [sv] at e
    split at e <;> simp only [Option.some.injEq, Prod.mk.injEq, reduceCtorEq] at e
    rw [← e.2]; exact Nat.le_refl _
  | succ m ih =>
    intro hm t u st e
    simp only [sv] at e
    split at e
    · simp only [Option.some.injEq, Prod.mk.injEq] at e
      rw [← e.2]; exact Nat.le_refl _
    · exact Nat.le_trans (ih (by omega) e) (nn_mono h (by omega) hm)
theorem ov_stage {P : Program} {n : Nat} (h : DP ops F S pm E E' v ch P n) {X : Nat → Bool} : ∀ {m : Nat}, m ≤ n → ∀ {id o st}, ov S E' ch X m id = some (o, st) → st ≤ nn S E' m := by
  intro m
  induction m with
  | zero =>
    intro _ t u st e
    simp only [ov] at e
    split at e <;> simp only [Option.some.injEq, Prod.mk.injEq, reduceCtorEq] at e
    rw [← e.2]; exact Nat.le_refl _
  | succ m ih =>
    intro hm t u st e
    have up : ∀ {x}, x ≤ nn S E' m → x ≤ nn S E' (m + 1) := fun hx => Nat.le_trans hx (nn_mono h (by omega) hm)
    simp only [ov] at e
    split at e
    · split at e
      · simp only [Option.some.injEq, Prod.mk.injEq] at e
        rw [← e.2]; exact Nat.le_refl _
      · simp at e
      · exact up (ih (by omega) e)
    · exact up (ih (by omega) e)
theorem ov_lt {P : Program} {n : Nat} (h : DP ops F S pm E E' v ch P n) (hS : ∀ id o, S.get id = some o → id < S.nx) {X : Nat → Bool} : ∀ {m : Nat}, m ≤ n → ∀ {id o st}, ov S E' ch X m id = some (o, st) → id < st := by
  intro m
  induction m with
  | zero =>
    intro _ id o st e
    simp only [ov] at e
    split at e <;> simp only [Option.some.injEq, Prod.mk.injEq, reduceCtorEq] at e
    rename_i o' ho
    rw [← e.2]; exact hS _ _ ho
  | succ m ih =>
    intro hm id o st e
    simp only [ov] at e
    split at e
    · split at e
      · rename_i o' ho
        simp only [Option.some.injEq, Prod.mk.injEq] at e
        rw [← e.2]; exact (h.chL m (by omega) id (by rw [ho]; simp)).2
      · simp at e
      · exact ih (by omega) e
    · exact ih (by omega) e

theorem ov_dead {P : Program} {n : Nat} (h : DP ops F S pm E E' v ch P n) {id : Nat} : ∀ {m : Nat}, m ≤ n → id < S.nx → S.get id = none → ∀ {X : Nat → Bool}, ov S E' ch X m id = none := by
  intro m
  induction m with
  | zero => intro _ _ e X; simp only [ov, e]
  | succ m ih =>
    intro hm hid e X
    simp only [ov]
    have hi := @ih (by omega) hid e
    split
    · cases hc : ch m id with
      | none => exact hi
      | some r =>
        exfalso
        rcases h.chN m (by omega) id (by rw [hc]; simp) with q | q
        · cases hE : (E m).get id with
          | none => exact q hE
          | some o =>
            obtain ⟨st, e'⟩ := h.see m (by omega) id o hE
            rw [hi] at e'; simp at e'
        · rw [h.nxE m (by omega)] at q
          have h0 := nn_mono h (Nat.zero_le m) (by omega)
          have : nn S E' 0 = S.nx := rfl
          omega
    · exact hi
/- Two views that differ only where nothing is changed. -/
theorem sv_congr {X Y : Nat → Bool} {t : Nat} : ∀ {m : Nat}, (∀ j, j < m → dstOf ops j = some t → X j = Y j) → sv ops F S E' v X m t = sv ops F S E' v Y m t := by
  intro m
  induction m with
  | zero => intro _; rfl
  | succ m ih =>
    intro h
    simp only [sv]
    by_cases hd : dstOf ops m = some t
    · rw [h m (by omega) hd, ih fun j hj => h j (by omega)]
    · simp only [hd, false_and, and_false, if_false]; exact ih fun j hj => h j (by omega)
theorem ov_congr {X Y : Nat → Bool} {id : Nat} : ∀ {m : Nat}, (∀ j, j < m → ch j id ≠ none → X j = Y j) → ov S E' ch X m id = ov S E' ch Y m id := by
  intro m
  induction m with
  | zero => intro _; rfl
  | succ m ih =>
    intro h
    simp only [ov]
    by_cases hd : ch m id = none
    · simp only [hd, ite_self]; exact ih fun j hj => h j (by omega)
    · rw [h m (by omega) hd, ih fun j hj => h j (by omega)]
/- A view on more operations, of which the later ones change nothing. -/
theorem sv_up {X : Nat → Bool} {t i : Nat} : ∀ {m : Nat}, i ≤ m → (∀ j, i ≤ j → j < m → X j = true → dstOf ops j ≠ some t) → sv ops F S E' v X m t = sv ops F S E' v X i t := by
  intro m
  induction m with
  | zero => intro hi _; have : i = 0 := by omega
            subst this; rfl
  | succ m ih =>
    intro hi h
    by_cases e : i = m + 1
    · subst e; rfl
    · simp only [sv]
      rw [if_neg]
      · exact ih (by omega) fun j a b => h j a (by omega)
      · rintro ⟨a, b, _⟩; exact h m (by omega) (by omega) a b
theorem ov_up {X : Nat → Bool} {id i : Nat} : ∀ {m : Nat}, i ≤ m → (∀ j, i ≤ j → j < m → X j = true → ch j id = none) → ov S E' ch X m id = ov S E' ch X i id := by
  intro m
  induction m with
  | zero => intro hi _; have : i = 0 := by omega
            subst this; rfl
  | succ m ih =>
    intro hi h
    by_cases e : i = m + 1
    · subst e; rfl
    · simp only [ov]
      split
      · rename_i a
        rw [h m (by omega) (by omega) a]
        exact ih (by omega) fun j a b => h j a (by omega)
      · exact ih (by omega) fun j a b => h j a (by omega)

theorem sv_big {X Y : Nat → Bool} {t : Nat} (ht : ¬ t < F.n) : ∀ {m : Nat}, sv ops F S E' v X m t = sv ops F S E' v Y m t := by
  intro m
  induction m with
  | zero => rfl
  | succ m ih => simp only [sv, ht, and_false, if_false]; exact ih
theorem addX_same (X : Nat → Bool) (i : Nat) : addX X i i = true := by simp [addX]
theorem addX_ne (X : Nat → Bool) {i j : Nat} (h : j ≠ i) : addX X i j = X j := by simp [addX, h]

/- One more operation. -/
theorem DJ.step {P : Program} {n : Nat} (h : DP ops F S pm E E' v ch P n) (hn : n ≤ ops.size)
    (hap : ∀ i j oi oj, i < n → j < i → pm i j = false → ops[i]? = some oi → ops[j]? = some oj → oi.apart ops oj = true)
    {X : Nat → Bool} {g0 g : Gh} {w0 w : World} {fr0 fr : Frame} {cs : List Frame} (hS : ∀ id o, S.get id = some o → id < S.nx) (hj : DJ ops F S E' v ch X n g0 w0 fr0 g w fr) {i : Nat} (hi : i < n) (hX : X i = false)
    (hcl : ∀ j, X j = true → j < n ∧ ∀ k, pm j k = true → X k = true) (hrd : ∀ j, pm i j = true → X j = true) {rest : List Nat} {m : List Item} (hmode : fr0.mode = .run) (ht : fr.todo = .inRegion ops (i :: rest) :: m) :
    ∃ fr' w' g', Steps P (lone fr cs w) (lone fr' cs w') ∧ fr'.todo = .inRegion ops rest :: m ∧ DJ ops F S E' v ch (addX X i) n g0 w0 fr0 g' w' fr' := by
  obtain ⟨o, ho, hop⟩ := h.op i hi
  have hin : nn S E' i ≤ nn S E' (i + 1) := nn_mono h (by omega) (by omega)
  have hX' : ∀ j, X j = true → j ≠ i ∧ pm j i = false := by
    intro j a
    refine ⟨fun e => (by subst e; rw [hX] at a; simp at a), ?_⟩
    cases e : pm j i with
    | false => rfl
    | true => rw [(hcl j a).2 i e] at hX; simp at hX
  have mdE : ∀ j, j < n → ∃ oj, ops[j]? = some oj := fun j hj => ⟨_, Array.getElem?_eq_getElem (Nat.lt_of_lt_of_le hj hn)⟩
  /- the slots that are looked at -/
  have hslot : ∀ t, t ∈ o.looksAt ops → sv ops F S E' v X n t = sv ops F S E' v (fun _ => true) i t := by
    intro t hlk
    rw [sv_up (i := i) (by omega)]
    · refine sv_congr fun j hji hd => ?_
      cases e : pm i j with
      | true => exact hrd j e
      | false =>
        obtain ⟨oj, hoj⟩ := mdE j (by omega)
        have hd' : oj.dst = some t := by simpa [dstOf, hoj] using hd
        exact absurd hlk ((Oper.apart_spec (hap i j o oj hi hji e ho hoj)).2.2 t hd')
    · intro j hij hjn hXj hd
      have hne := hX' j hXj
      have hlt : i < j := by omega
      obtain ⟨oj, hoj⟩ := mdE j hjn
      have hd' : oj.dst = some t := by simpa [dstOf, hoj] using hd
      exact absurd hlk ((Oper.apart_spec (hap j i oj o hjn hlt hne.2 hoj ho)).1 t hd')
  /- the objects that are seen -/
  have hsee : ∀ id ob, (E i).get id = some ob → ∃ st, ov S E' ch X n id = some (ob, st) ∧ st ≤ nn S E' i := by
    intro id ob e
    obtain ⟨st, e1⟩ := h.see i hi id ob e
    have hst := ov_stage h (by omega : i ≤ n) e1
    have hidst := ov_lt h hS (by omega : i ≤ n) e1
    refine ⟨st, ?_, hst⟩
    rw [← e1, ov_up (i := i) (by omega)]
    · refine ov_congr fun j hji hc => ?_
      cases e' : pm i j with
      | true => exact hrd j e'
      | false => exact absurd (h.apartL i hi j hji e' id hc) (by rw [e]; simp)
    · intro j hij hjn hXj
      have hne := hX' j hXj
      have hlt : i < j := by omega
      cases hc : ch j id with
      | none => rfl
      | some r =>
        exfalso
        have hlo : id < (E j).nx := by
          rw [h.nxE j hjn]
          have := nn_mono h (show i ≤ j by omega) (by omega)
          omega
        have := h.apartR i hi j hjn hlt hne.2 id (by rw [hc]; simp) hlo
        rw [this] at e; simp at e
  have hnxi := h.nxE i hi
  have hinv : Inv (E i) (g.cut (nn S E' i)) w := by
    refine ⟨hj.ro, ?_, ?_, ?_⟩
    · intro id ob e
      obtain ⟨st, e1, e2⟩ := hsee id ob e
      obtain ⟨l, a, b, c⟩ := hj.ob id ob st e1
      have hm := Gh.cut_cut (Gh.le_refl g) e2
      exact ⟨l, hm.ph _ _ a, b, c.mono hm⟩
    · intro id id' o1 o2 l l' e e' p p' hb
      obtain ⟨st, e1, _⟩ := hsee id o1 e
      obtain ⟨st', e1', _⟩ := hsee id' o2 e'
      exact hj.inj id id' o1 o2 st st' l l' e1 e1' (Gh.cut_lt p).2 (Gh.cut_lt p').2 hb
    · intro id hid
      rw [hnxi] at hid
      simp [Gh.cut, show ¬ id < nn S E' i by omega]
  have hmd : fr.mode = .run := by rw [hj.frame]; exact hmode
  obtain ⟨w', g1, x, hs, hv, hi', hx⟩ := hop (g.cut (nn S E' i)) w fr cs i rest m hmd ht ho (by
    intro t hlk u e
    simp only [← hslot t hlk] at e
    split at e <;> simp only [Option.some.injEq, reduceCtorEq] at e
    rename_i u' st e'
    subst e
    obtain ⟨x, e1, e2⟩ := hj.slots t _ st e'
    refine ⟨x, e1, e2.mono (Gh.cut_cut (Gh.le_refl g) ?_)⟩
    rw [hslot t hlk] at e'
    exact sv_stage h (by omega) e') hinv
  have hmono : ∀ {a b}, a ≤ b → b ≤ n → nn S E' a ≤ nn S E' b := fun hab hb => nn_mono h hab hb
  have hnx0 : S.nx ≤ nn S E' i := by have := hmono (show 0 ≤ i by omega) (by omega); exact this
  obtain ⟨gn, hgn⟩ : ∃ k : Gh, k = { ro := g1.ro, ph := fun id => if nn S E' i ≤ id ∧ id < nn S E' (i + 1) then g1.ph id else g.ph id } := ⟨_, rfl⟩
  have hgro : gn.ro = g1.ro := by rw [hgn]
  have hgin : ∀ {id}, nn S E' i ≤ id → id < nn S E' (i + 1) → gn.ph id = g1.ph id := by intro id a b; rw [hgn]; simp [a, b]
  have hgout : ∀ {id}, ¬ (nn S E' i ≤ id ∧ id < nn S E' (i + 1)) → gn.ph id = g.ph id := by intro id a; rw [hgn]; simp [a]
  have hle : Gh.le g gn := by
    refine ⟨fun b c e => by rw [hgro]; exact hx.gle.ro b c e, fun id l e => ?_⟩
    rw [hgout]
    · exact e
    · rintro ⟨a, b⟩
      rcases hj.dom id l e with q | ⟨j, q1, q2, q3, q4⟩
      · omega
      · have hne := (hX' j q2).1
        rcases Nat.lt_or_ge j i with k | k
        · have := hmono (show j + 1 ≤ i by omega) (by omega); omega
        · have := hmono (show i + 1 ≤ j by omega) (by omega); omega
  have h1n : Gh.le g1 (gn.cut (nn S E' (i + 1))) := by
    refine ⟨fun b c e => by show gn.ro b = some c; rw [hgro]; exact e, fun id l e => ?_⟩
    have hlt : id < nn S E' (i + 1) := hi'.lt_nx e
    refine Gh.cut_of hlt ?_
    by_cases hb : nn S E' i ≤ id
    · rw [hgin hb hlt]; exact e
    · rw [hgout (by omega)]
      have := hx.old id (by rw [hnxi]; omega)
      rw [this] at e
      exact (Gh.cut_lt e).2
  have hwr : ∀ id0 o0 l0, (E i).get id0 = some o0 → (E i).lim ≤ id0 → (g.cut (nn S E' i)).ph id0 = some l0 → ch i id0 ≠ none ∧ g.ph id0 = some l0 ∧ S.lim ≤ id0 ∧ ∃ st, ov S E' ch X n id0 = some (o0, st) :=
    fun id0 o0 l0 e1 e2 e3 => ⟨h.chC i hi id0 o0 e1 e2, (Gh.cut_lt e3).2, Nat.le_trans (h.lim i hi) e2, let ⟨st, a, _⟩ := hsee id0 o0 e1; ⟨st, a⟩⟩
  have hov_ch : ∀ {id r}, ch i id = some r → ov S E' ch (addX X i) n id = match r with
      | some ob => some (ob, nn S E' (i + 1))
      | none => none := by
    intro id r hr
    rw [ov_up (i := i + 1) (by omega)]
    · simp only [ov, addX_same, if_true, hr]
      cases r <;> rfl
    · intro j hij hjn hXj
      rw [addX_ne X (by omega)] at hXj
      have hne := hX' j hXj
      cases hc : ch j id with
      | none => rfl
      | some r' =>
        exfalso
        rcases h.chN j hjn id (by rw [hc]; simp) with q | q
        · exact q (h.apartL j hjn i (by omega) hne.2 id (by rw [hr]; simp))
        · have h1 := (h.chL i hi id (by rw [hr]; simp)).2
          have h2 := hmono (show i + 1 ≤ j by omega) (by omega)
          rw [h.nxE j hjn] at q
          have h3 : nn S E' (i + 1) = (E' i).nx := rfl
          omega
  have hov_no : ∀ {id}, ch i id = none → ov S E' ch (addX X i) n id = ov S E' ch X n id := by
    intro id hc
    refine ov_congr fun j _ hcj => ?_
    by_cases e : j = i
    · subst e; exact absurd hc hcj
    · exact addX_ne X e
  /- an object that goes on untouched -/
  have hun : ∀ {id ob st}, ch i id = none → ov S E' ch X n id = some (ob, st) → ∃ l, (g.cut st).ph id = some l ∧ l.blk < w.heap.size ∧ ObR (g.cut st) l w.heap[l.blk]? ob ∧ g.ro l.blk = none ∧
      (∀ id0 o0 l0, (E i).get id0 = some o0 → (E i).lim ≤ id0 → (g.cut (nn S E' i)).ph id0 = some l0 → l0.blk ≠ l.blk) := by
    intro id ob st hc e
    obtain ⟨l, a, b, c⟩ := hj.ob id ob st e
    refine ⟨l, a, c.lt, c, b, fun id0 o0 l0 e1 e2 e3 eb => ?_⟩
    obtain ⟨q1, q2, q3, st0, q4⟩ := hwr id0 o0 l0 e1 e2 e3
    have := hj.inj id0 id o0 ob st0 st l0 l q4 e q2 (Gh.cut_lt a).2 eb
    subst this; exact q1 hc
  have hchd : ∀ {id ob st}, ch i id ≠ none → ov S E' ch (addX X i) n id = some (ob, st) → st = nn S E' (i + 1) ∧ (E' i).get id = some ob ∧ (E i).lim ≤ id := by
    intro id ob st hc e
    cases hr : ch i id with
    | none => exact absurd hr hc
    | some r =>
      rw [hov_ch hr] at e
      cases r with
      | none => simp at e
      | some ob' =>
        simp only [Option.some.injEq, Prod.mk.injEq] at e
        obtain ⟨rfl, rfl⟩ := e
        exact ⟨rfl, h.chE i hi id _ hr, (h.chL i hi id hc).1⟩
  have hfin := finish_eq ht ho x
  have hgst : ∀ {st}, Gh.le (g.cut st) (gn.cut st) := Gh.cut_cut hle (Nat.le_refl _)
  refine ⟨fr.finish x, w', gn, hs, by rw [hfin], ?_⟩
  have hown : ∀ id o st l, ov S E' ch (addX X i) n id = some (o, st) → S.lim ≤ id → gn.ph id = some l → l.blk < w0.heap.size → ∃ id0 o0 l0, S.get id0 = some o0 ∧ S.lim ≤ id0 ∧ g0.ph id0 = some l0 ∧ l0.blk = l.blk := by
    intro id ob st l e hlim hl hlt
    by_cases hc : ch i id = none
    · rw [hov_no hc] at e
      obtain ⟨l', a, _⟩ := hj.ob id ob st e
      have hl' := hle.ph _ _ (Gh.cut_lt a).2
      rw [hl] at hl'; simp only [Option.some.injEq] at hl'; subst hl'
      exact hj.own id ob st l e hlim (Gh.cut_lt a).2 hlt
    · obtain ⟨_, q2, q3⟩ := hchd hc e
      obtain ⟨l1, r1, _, _⟩ := hi'.ob id ob q2
      have hl1 := (Gh.cut_lt (h1n.ph _ _ r1)).2
      rw [hl] at hl1; simp only [Option.some.injEq] at hl1; subst hl1
      obtain ⟨id0, o0, l0, f1, f2, f3, f4⟩ := hx.own id ob l q2 q3 r1 (Nat.lt_of_lt_of_le hlt hj.size)
      obtain ⟨_, p2, p3, st0, p4⟩ := hwr id0 o0 l0 f1 f2 f3
      obtain ⟨id1, o1, l1, z1, z2, z3, z4⟩ := hj.own id0 o0 st0 l0 p4 p3 p2 (f4 ▸ hlt)
      exact ⟨id1, o1, l1, z1, z2, z3, z4.trans f4⟩
  refine ⟨?_, ?_, ?_, ?_, ?_, Nat.le_trans hj.size hx.size, hx.os.trans hj.os, hx.tape.trans hj.tape, hx.output.trans hj.output, ?_, hown, Gh.le_trans hj.gle hle, ?_, ?_, ?_, ?_, ?_⟩
  · intro t u st e
    rw [hfin]
    by_cases hd : dstOf ops i = some t ∧ t < F.n
    · obtain ⟨hd, htn⟩ := hd
      have hdo : o.dst = some t := by simpa [dstOf, ho] using hd
      rw [sv_up (i := i + 1) (by omega)] at e
      · simp only [sv, addX_same, hd, htn, and_self, if_true, Option.some.injEq, Prod.mk.injEq] at e
        obtain ⟨rfl, rfl⟩ := e
        exact ⟨x, by simp [hdo, hj.fsize, htn], hv.mono h1n⟩
      · intro j hij hjn hXj hdj
        rw [addX_ne X (by omega)] at hXj
        have hne := hX' j hXj
        obtain ⟨oj, hoj⟩ := mdE j hjn
        have hd' : oj.dst = some t := by simpa [dstOf, hoj] using hdj
        exact (Oper.apart_spec (hap j i oj o hjn (by omega) hne.2 hoj ho)).2.1 t hd' hdo
    · have hsame : sv ops F S E' v (addX X i) n t = sv ops F S E' v X n t := by
        by_cases htn : t < F.n
        · refine sv_congr fun j _ hdj => ?_
          by_cases e : j = i
          · subst e; exact absurd ⟨hdj, htn⟩ hd
          · exact addX_ne X e
        · exact sv_big htn
      rw [hsame] at e
      obtain ⟨y, y1, y2⟩ := hj.slots t u st e
      refine ⟨y, ?_, y2.mono hgst⟩
      cases hdo : o.dst with
      | none => exact y1
      | some d =>
        simp only [Array.getElem?_setIfInBounds]
        by_cases hdt : d = t
        · subst hdt
          exfalso
          have hlt := (Array.getElem?_eq_some_iff.1 y1).1
          exact hd ⟨by simp [dstOf, ho, hdo], by rw [← hj.fsize]; exact hlt⟩
        · rw [if_neg hdt]; exact y1
  · intro id ob st e
    by_cases hc : ch i id = none
    · rw [hov_no hc] at e
      obtain ⟨l, a, b, c, d, f⟩ := hun hc e
      refine ⟨l, hgst.ph _ _ a, ?_, ?_⟩
      · rw [hgro]
        cases hr : g1.ro l.blk with
        | none => rfl
        | some cc =>
          exfalso
          rcases hx.ron l.blk cc hr b with q | ⟨id0, o0, l0, f1, f2, f3, f4⟩
          · have q' : g.ro l.blk = some cc := q
            rw [d] at q'; simp at q'
          · exact f id0 o0 l0 f1 f2 f3 f4
      · rw [hx.keep l.blk b f]; exact c.mono hgst
    · obtain ⟨rfl, q2, q3⟩ := hchd hc e
      obtain ⟨l1, r1, r2, r3⟩ := hi'.ob id ob q2
      exact ⟨l1, h1n.ph _ _ r1, by rw [hgro]; exact r2, r3.mono h1n⟩
  · have key : ∀ a b oa ob sa sb la lb, ch i a ≠ none → ch i b = none → ov S E' ch (addX X i) n a = some (oa, sa) → ov S E' ch (addX X i) n b = some (ob, sb) → gn.ph a = some la → gn.ph b = some lb → la.blk = lb.blk → False := by
      intro a b oa ob sa sb la lb ca cb ea eb pa pb hbk
      rw [hov_no cb] at eb
      obtain ⟨l, z1, z2, z3, z4, z5⟩ := hun cb eb
      have := (Gh.cut_lt (hgst.ph _ _ z1)).2
      rw [pb] at this; simp only [Option.some.injEq] at this; subst this
      obtain ⟨_, q2, q3⟩ := hchd ca ea
      obtain ⟨l1, r1, _, _⟩ := hi'.ob a oa q2
      have hl1 := (Gh.cut_lt (h1n.ph _ _ r1)).2
      rw [pa] at hl1; simp only [Option.some.injEq] at hl1; subst hl1
      obtain ⟨id0, o0, l0, f1, f2, f3, f4⟩ := hx.own a oa la q2 q3 r1 (hbk ▸ z2)
      exact z5 id0 o0 l0 f1 f2 f3 (f4.trans hbk)
    intro a b oa ob sa sb la lb ea eb pa pb hbk
    by_cases ca : ch i a = none <;> by_cases cb : ch i b = none
    · rw [hov_no ca] at ea; rw [hov_no cb] at eb
      obtain ⟨l, z1, _⟩ := hj.ob a oa sa ea
      obtain ⟨l', z1', _⟩ := hj.ob b ob sb eb
      have h1 := hle.ph _ _ (Gh.cut_lt z1).2
      have h2 := hle.ph _ _ (Gh.cut_lt z1').2
      rw [pa] at h1; rw [pb] at h2; simp only [Option.some.injEq] at h1 h2; subst h1; subst h2
      exact hj.inj a b oa ob sa sb la lb ea eb (Gh.cut_lt z1).2 (Gh.cut_lt z1').2 hbk
    · exact (key b a ob oa sb sa lb la cb ca eb ea pb pa hbk.symm).elim
    · exact (key a b oa ob sa sb la lb ca cb ea eb pa pb hbk).elim
    · obtain ⟨_, q2, _⟩ := hchd ca ea
      obtain ⟨_, q2', _⟩ := hchd cb eb
      obtain ⟨l1, r1, _, _⟩ := hi'.ob a oa q2
      obtain ⟨l2, r2, _, _⟩ := hi'.ob b ob q2'
      have h1 := (Gh.cut_lt (h1n.ph _ _ r1)).2
      have h2 := (Gh.cut_lt (h1n.ph _ _ r2)).2
      rw [pa] at h1; rw [pb] at h2; simp only [Option.some.injEq] at h1 h2; subst h1; subst h2
      exact hi'.inj a b oa ob la lb q2 q2' r1 r2 hbk
  · intro b c e; exact hi'.ro b c (by rw [← hgro]; exact e)
  · intro id l e
    by_cases hb : nn S E' i ≤ id ∧ id < nn S E' (i + 1)
    · exact .inr ⟨i, hi, addX_same X i, hb.1, hb.2⟩
    · rw [hgout hb] at e
      rcases hj.dom id l e with q | ⟨j, q1, q2, q3, q4⟩
      · exact .inl q
      · exact .inr ⟨j, q1, by rw [addX_ne X (hX' j q2).1]; exact q2, q3, q4⟩
  · intro b hb hne
    rw [hx.keep b (Nat.lt_of_lt_of_le hb hj.size) ?_, hj.keep b hb hne]
    intro id0 o0 l0 e1 e2 e3 e4
    obtain ⟨_, p2, p3, st0, p4⟩ := hwr id0 o0 l0 e1 e2 e3
    obtain ⟨id1, o1, l1, z1, z2, z3, z4⟩ := hj.own id0 o0 st0 l0 p4 p3 p2 (e4 ▸ hb)
    exact hne id1 o1 l1 z1 z2 z3 (z4.trans e4)
  · intro id hid
    rw [hgout (by omega)]; exact hj.old id hid
  · intro b c e hb
    rw [hgro] at e
    rcases hx.ron b c e (Nat.lt_of_lt_of_le hb hj.size) with q | ⟨id0, o0, l0, e1, e2, e3, e4⟩
    · exact hj.ron b c q hb
    · obtain ⟨_, p2, p3, st0, p4⟩ := hwr id0 o0 l0 e1 e2 e3
      obtain ⟨id1, o1, l1, z1, z2, z3, z4⟩ := hj.own id0 o0 st0 l0 p4 p3 p2 (e4 ▸ hb)
      exact .inr ⟨id1, o1, l1, z1, z2, z3, z4.trans e4⟩
  · exact fun a => (hx.fz a).trans (hj.fz a)
  · rw [hfin]
    cases o.dst <;> simp [hj.fsize]
  · have := hj.frame
    rw [hfin]
    rw [this]

theorem cnt_set : ∀ (l : List Bool) (i : Nat), l[i]? = some false → (l.set i true).count false + 1 = l.count false := by
  intro l
  induction l with
  | nil => intro i h; simp at h
  | cons b l ih =>
    intro i h
    cases i with
    | zero => simp at h; subst h; simp
    | succ i =>
      have := ih i (by simpa using h)
      simp only [List.set_cons_succ, List.count_cons]
      omega

theorem DJ.congr {n : Nat} {X Y : Nat → Bool} {g0 g : Gh} {w0 w : World} {fr0 fr : Frame} (hXY : ∀ j, j < n → X j = Y j) (h : DJ ops F S E' v ch X n g0 w0 fr0 g w fr) : DJ ops F S E' v ch Y n g0 w0 fr0 g w fr := by
  have h1 : ∀ t, sv ops F S E' v Y n t = sv ops F S E' v X n t := fun t => (sv_congr fun j hj _ => hXY j hj).symm
  have h2 : ∀ id, ov S E' ch Y n id = ov S E' ch X n id := fun id => (ov_congr fun j hj _ => hXY j hj).symm
  refine ⟨fun t u st e => h.slots t u st (h1 t ▸ e), fun id o st e => h.ob id o st (h2 id ▸ e), fun id id' o o' st st' l l' e e' => h.inj id id' o o' st st' l l' (h2 id ▸ e) (h2 id' ▸ e'), h.ro, fun id l e => ?_, h.size, h.os, h.tape, h.output, h.keep,
    fun id o st l e => h.own id o st l (h2 id ▸ e), h.gle, h.old, h.ron, h.fz, h.fsize, h.frame⟩
  rcases h.dom id l e with q | ⟨j, q1, q2, q3⟩
  · exact .inl q
  · exact .inr ⟨j, q1, by rw [← hXY j q1]; exact q2, q3⟩

/- What the edges say. -/
structure Edges (ops : Array Oper) (pm : Nat → Nat → Bool) : Prop where
  low : ∀ i o e, ops[i]? = some o → e ∈ o.after → Region.binds .any e = true → e.on < i
  up : ∀ i j, pm i j = true → ∃ o e, ops[i]? = some o ∧ e ∈ o.after ∧ Region.binds .any e = true ∧ (e.on = j ∨ pm e.on j = true)

theorem ready_of {listed : Array Bool} (he : Edges ops pm) (hs : listed.size = ops.size) : ∀ (i : Nat), listed.toList[i]? = some false → ∃ j, j ∈ Region.ready .any ops listed := by
  intro i
  induction i using Nat.strongRecOn with
  | _ i ih =>
    intro hf
    have hf' : listed[i]? = some false := by simpa using hf
    have hlt : i < ops.size := by rw [← hs]; exact (Array.getElem?_eq_some_iff.1 hf').1
    have ho : ops[i]? = some ops[i] := Array.getElem?_eq_getElem hlt
    by_cases h : ∀ e ∈ ops[i].after, Region.binds .any e = true → listed.getD e.on false = true
    · exact ⟨i, mem_ready.2 ⟨by simp [Array.getD_eq_getD_getElem?, hf'], _, ho, h⟩⟩
    · have : ∃ e, e ∈ ops[i].after ∧ Region.binds .any e = true ∧ ¬ listed.getD e.on false = true := by
        refine Classical.byContradiction fun hc => h fun e h1 h2 => Classical.byContradiction fun h3 => hc ⟨e, h1, h2, h3⟩
      obtain ⟨e, e1, e2, e3⟩ := this
      have hl := he.low i _ e ho e1 e2
      have hel : e.on < listed.size := by omega
      refine ih e.on hl ?_
      have hg : listed[e.on]? = some listed[e.on] := Array.getElem?_eq_getElem hel
      cases hb : listed[e.on] with
      | false => simp [hel, hb]
      | true => exact absurd (by simp [Array.getD_eq_getD_getElem?, hg, hb]) e3

/- All that is left, in whatever order. -/
theorem DJ.run {P : Program} {n : Nat} (h : DP ops F S pm E E' v ch P n) (hn : n = ops.size) (he : Edges ops pm)
    (hap : ∀ i j oi oj, i < n → j < i → pm i j = false → ops[i]? = some oi → ops[j]? = some oj → oi.apart ops oj = true)
    {g0 : Gh} {w0 : World} {fr0 : Frame} {cs : List Frame} {m : List Item} (hS : ∀ id o, S.get id = some o → id < S.nx) (hmode : fr0.mode = .run) :
    ∀ (fuel t : Nat) (listed : Array Bool) (g : Gh) (w : World) (fr : Frame), listed.size = n → listed.toList.count false ≤ fuel →
      (∀ j, listed.getD j false = true → ∀ k, pm j k = true → listed.getD k false = true) →
      DJ ops F S E' v ch (fun j => listed.getD j false) n g0 w0 fr0 g w fr → fr.todo = .inRegion ops (Region.linearise.go .any ops fuel t listed []) :: m →
      ∃ fr' w' g', Steps P (lone fr cs w) (lone fr' cs w') ∧ fr'.todo = .inRegion ops [] :: m ∧ DJ ops F S E' v ch (fun _ => true) n g0 w0 fr0 g' w' fr' := by
  intro fuel
  induction fuel with
  | zero =>
    intro t listed g w fr hsz hc _ hj ht
    refine ⟨fr, w, g, Steps.refl _ _, by simpa [Region.linearise.go] using ht, hj.congr fun j hjn => ?_⟩
    have hg : listed[j]? = some listed[j] := Array.getElem?_eq_getElem (by omega)
    cases hb : listed[j] with
    | true => simp [Array.getD_eq_getD_getElem?, hg, hb]
    | false =>
      have : false ∈ listed.toList := by rw [← hb]; simp
      have := List.count_pos_iff.2 this
      omega
  | succ fuel ih =>
    intro t listed g w fr hsz hc hcl hj ht
    simp only [Region.linearise.go] at ht
    change fr.todo = .inRegion ops (match (Region.ready .any ops listed)[t % (Region.ready .any ops listed).length]? with
      | some i => Region.linearise.go .any ops fuel (t / (Region.ready .any ops listed).length) (listed.setIfInBounds i true) [i]
      | none => [].reverse) :: m at ht
    cases hi : (Region.ready .any ops listed)[t % (Region.ready .any ops listed).length]? with
    | none =>
      have hnil : Region.ready .any ops listed = [] := by
        cases hr : Region.ready .any ops listed with
        | nil => rfl
        | cons x xs =>
          rw [hr] at hi
          have hlt : t % (x :: xs).length < (x :: xs).length := Nat.mod_lt _ (by simp)
          simp at hi
          simp at hlt
          omega
      rw [hi] at ht
      refine ⟨fr, w, g, Steps.refl _ _, by simpa using ht, hj.congr fun j hjn => ?_⟩
      have hg : listed[j]? = some listed[j] := Array.getElem?_eq_getElem (by omega)
      cases hb : listed[j] with
      | true => simp [Array.getD_eq_getD_getElem?, hg, hb]
      | false =>
        obtain ⟨r, hr⟩ := ready_of (listed := listed) he (by omega) j (by rw [← hb]; simp)
        rw [hnil] at hr; simp at hr
    | some i =>
      rw [hi] at ht
      simp only at ht
      rw [linearise_go_acc, List.reverse_singleton, List.singleton_append] at ht
      have hmem := List.mem_of_getElem? hi
      obtain ⟨hun, o, ho, hall⟩ := mem_ready.1 hmem
      have hin : i < n := by rw [hn]; exact (Array.getElem?_eq_some_iff.1 ho).1
      have hg : listed[i]? = some listed[i] := Array.getElem?_eq_getElem (by omega)
      have hfi : listed[i] = false := by simpa [Array.getD_eq_getD_getElem?, hg] using hun
      have hrd : ∀ j, pm i j = true → listed.getD j false = true := by
        intro j hp
        obtain ⟨o', e, a1, a2, a3, a4⟩ := he.up i j hp
        rw [ho] at a1; simp only [Option.some.injEq] at a1; subst a1
        have := hall e a2 a3
        rcases a4 with rfl | a4
        · exact this
        · exact hcl e.on this j a4
      obtain ⟨fr', w', g', s1, s2, s3⟩ := hj.step (cs := cs) h (Nat.le_of_eq hn) hap hS hin (by simp [Array.getD_eq_getD_getElem?, hg, hfi]) (fun j a => ⟨by
        rcases Nat.lt_or_ge j listed.size with q | q
        · omega
        · simp [Array.getD_eq_getD_getElem?, Array.getElem?_eq_none q] at a, hcl j a⟩) hrd hmode ht
      have hset : ∀ j, (listed.setIfInBounds i true).getD j false = addX (fun j => listed.getD j false) i j := by
        intro j
        by_cases e : j = i
        · subst e; simp [addX, show j < listed.size by omega]
        · rw [addX_ne _ e]; exact getD_set_ne false (Ne.symm e)
      obtain ⟨fr2, w2, g2, r1, r2, r3⟩ := ih (t / (Region.ready .any ops listed).length) (listed.setIfInBounds i true) g' w' fr' (by simpa using hsz) (by
          have := cnt_set listed.toList i (by simp [show i < listed.size by omega, hfi])
          simp only [Array.toList_setIfInBounds]; omega) (by
          intro j a k b
          rw [hset] at a ⊢
          by_cases e : j = i
          · subst e
            by_cases e' : k = j
            · subst e'; exact addX_same _ _
            · rw [addX_ne _ e']; exact hrd k b
          · rw [addX_ne _ e] at a
            by_cases e' : k = i
            · subst e'; exact addX_same _ _
            · rw [addX_ne _ e']; exact hcl j a k b) (s3.congr fun j _ => (hset j).symm) s2
      exact ⟨fr2, w2, g2, Steps.trans s1 r1, r2, r3⟩

theorem Reach.drawn {P : Program} {n : Nat} {F' : AFrame} {S' : Sto} {G : AFrame → Sto → Prop} {id : Nat} {k : List AItem} (hmix : P.follows .mixedOrders = true) (hm : F.mode = .run) (ht : F.todo = .code (.region id ops true) :: k)
    (h : DP ops F S pm E E' v ch P n) (hn : n = ops.size) (he : Edges ops pm)
    (hap : ∀ i j oi oj, i < n → j < i → pm i j = false → ops[i]? = some oi → ops[j]? = some oj → oi.apart ops oj = true)
    (hF : F'.n = F.n ∧ F'.todo = k ∧ F'.defers = F.defers ∧ F'.mode = F.mode) (hk : F'.kind = F.kind) (hfn : F'.fn = F.fn) (hro : F'.round = F.round) (hcm : F'.cm = F.cm)
    (hget : ∀ t u, F'.get t = some u → ∃ st, sv ops F S E' v (fun _ => true) n t = some (u, st))
    (hnx : S'.nx = nn S E' n) (hlim : S'.lim = S.lim) (hS' : ∀ id, S'.get id = match ov S E' ch (fun _ => true) n id with
      | some (o, _) => some o
      | none => none) (hr : Reach P F' S' G) : Reach P F S G := by
  refine hr.turn hk hfn hro hcm fun g w fr cs hf hi => ?_
  have hrun := hf.runs hm
  have htd := hf.todo
  rw [ht] at htd
  generalize hftd : fr.todo = td at htd
  cases htd with | cons h1 h2 => ?_
  cases h1
  rename_i m
  have st0 : step P (lone fr cs w) = .next (lone { fr with todo := .inRegion ops (Region.schedule (P.follows .mixedOrders) ops (w.tape w.drawn (.order fr.fn id))) :: m } cs { w with drawn := w.drawn + 1 }) :=
    step_lone_go (by simp [stepG, stepG.exec, hrun, hftd, choose, Sem.run, Question.forced, Question.cut])
  rw [hmix] at st0
  simp only [Region.schedule, Bool.true_or, if_true, Region.linearise] at st0
  generalize w.tape w.drawn (.order fr.fn id) = t at st0
  have hno : ∀ j, (Array.replicate ops.size false).getD j false = false := by
    intro j
    simp only [Array.getD_eq_getD_getElem?, Array.getElem?_replicate]
    split <;> rfl
  have hsvb : ∀ m t, sv ops F S E' v (fun _ => false) m t = sv ops F S E' v (fun _ => false) 0 t := by
    intro m t
    exact sv_up (i := 0) (Nat.zero_le _) (fun j _ _ e => by simp at e)
  have hovb : ∀ m id, ov S E' ch (fun _ => false) m id = ov S E' ch (fun _ => false) 0 id := by
    intro m id
    exact ov_up (i := 0) (Nat.zero_le _) (fun j _ _ e => by simp at e)
  have hj0 : DJ ops F S E' v ch (fun _ => false) n g w fr g { w with drawn := w.drawn + 1 } { fr with todo := .inRegion ops (Region.linearise.go .any ops ops.size t (Array.replicate ops.size false) []) :: m } := by
    have hcut : ∀ {id l}, g.ph id = some l → (g.cut S.nx).ph id = some l := fun e => Gh.cut_of (hi.lt_nx e) e
    have hcl : Gh.le g (g.cut S.nx) := ⟨fun _ _ e => e, fun _ _ e => hcut e⟩
    refine ⟨?_, ?_, ?_, hi.ro, fun id l e => .inl (hi.lt_nx e), Nat.le_refl _, rfl, rfl, rfl, fun _ _ _ => rfl, ?_, Gh.le_refl _, fun _ _ => rfl, fun _ _ e _ => .inl e, fun _ => rfl, hf.size, rfl⟩
    · intro t u st e
      rw [hsvb] at e
      simp only [sv] at e
      split at e <;> simp only [Option.some.injEq, Prod.mk.injEq, reduceCtorEq] at e
      rename_i u' hu
      obtain ⟨rfl, rfl⟩ := e
      obtain ⟨x, a, b⟩ := hf.get t _ hu
      exact ⟨x, a, b.mono hcl⟩
    · intro id o st e
      rw [hovb] at e
      simp only [ov] at e
      split at e <;> simp only [Option.some.injEq, Prod.mk.injEq, reduceCtorEq] at e
      rename_i o' ho
      obtain ⟨rfl, rfl⟩ := e
      obtain ⟨l, a, b, c⟩ := hi.ob id _ ho
      exact ⟨l, hcut a, b, c.mono hcl⟩
    · intro id id' o o' st st' l l' e e' p p' hb
      rw [hovb] at e e'
      simp only [ov] at e e'
      split at e <;> simp only [Option.some.injEq, Prod.mk.injEq, reduceCtorEq] at e
      rename_i o1 ho1
      split at e' <;> simp only [Option.some.injEq, Prod.mk.injEq, reduceCtorEq] at e'
      rename_i o2 ho2
      exact hi.inj id id' o1 o2 l l' ho1 ho2 p p' hb
    · intro id o st l e hl hp hlt
      rw [hovb] at e
      simp only [ov] at e
      split at e <;> simp only [Option.some.injEq, Prod.mk.injEq, reduceCtorEq] at e
      rename_i o1 ho1
      exact ⟨id, o1, l, ho1, hl, hp, rfl⟩
  obtain ⟨fr', w', g', s1, s2, s3⟩ := DJ.run (cs := cs) (m := m) h hn he hap (fun id o e => hi.get_lt e) hrun ops.size t (Array.replicate ops.size false) g { w with drawn := w.drawn + 1 }
    { fr with todo := .inRegion ops (Region.linearise.go .any ops ops.size t (Array.replicate ops.size false) []) :: m } (by simp [hn]) (by simp) (by
      intro j a; rw [hno] at a; simp at a) (hj0.congr fun j _ => (hno j).symm) rfl
  have hfr : fr' = { fr with tmps := fr'.tmps, todo := .inRegion ops [] :: m } := by
    have := s3.frame
    rw [s2] at this
    exact this
  have st2 : step P (lone fr' cs w') = .next (lone { fr' with todo := m } cs w') := step_lone_go (by simp [stepG, stepG.exec, show fr'.mode = .run by rw [hfr]; exact hrun, s2])
  have hnn : ∀ {X : Nat → Bool} {t u st}, sv ops F S E' v X n t = some (u, st) → Gh.le (g'.cut st) g' := fun _ => Gh.cut_le _ _
  refine ⟨{ fr' with todo := m }, w', g', ?_, ?_, ?_, Steps.head st0 (Steps.trans s1 (.one st2))⟩
  · have hgl := s3.gle
    have hf' := hf.mono hgl
    refine ⟨?_, ?_, ?_, ?_, ?_, ?_, ?_, ?_⟩
    · rw [hfn, hfr]; exact hf'.fn
    · rw [hF.1]; exact s3.fsize
    · intro t u e
      obtain ⟨st, e1⟩ := hget t u e
      obtain ⟨x, a, b⟩ := s3.slots t u st e1
      exact ⟨x, a, b.mono (Gh.cut_le _ _)⟩
    · rw [hF.2.1]; exact h2.mono hgl
    · rw [hF.2.2.1, hfr]; exact hf'.defers
    · rw [hF.2.2.2, hfr]; exact hf'.mode
    · rw [hk, hfr]; exact hf'.kind
    · rw [hro, hfr]; exact hf'.round
  · refine ⟨s3.ro, ?_, ?_, ?_⟩
    · intro id o e
      rw [hS'] at e
      split at e <;> simp only [Option.some.injEq, reduceCtorEq] at e
      rename_i o' st e'
      subst e
      obtain ⟨l, a, b, c⟩ := s3.ob id _ st e'
      exact ⟨l, (Gh.cut_lt a).2, b, c.mono (Gh.cut_le _ _)⟩
    · intro id id' o o' l l' e e' p p' hb
      rw [hS'] at e e'
      split at e <;> simp only [Option.some.injEq, reduceCtorEq] at e
      rename_i o1 st1 e1
      split at e' <;> simp only [Option.some.injEq, reduceCtorEq] at e'
      rename_i o2 st2' e2
      exact s3.inj id id' o1 o2 st1 st2' l l' e1 e2 p p' hb
    · intro id hid
      cases e : g'.ph id with
      | none => rfl
      | some l =>
        exfalso
        rw [hnx] at hid
        rcases s3.dom id l e with q | ⟨j, q1, _, _, q3⟩
        · have := nn_mono h (Nat.zero_le n) (Nat.le_refl _)
          have h0 : nn S E' 0 = S.nx := rfl
          omega
        · have := nn_mono h (show j + 1 ≤ n by omega) (Nat.le_refl _)
          omega
  · refine ⟨s3.size, s3.os, s3.tape, s3.output, s3.keep, ?_, s3.gle, ?_, hlim, ?_, s3.old, s3.ron, fun id hid e => by rw [hS', ov_dead h (Nat.le_refl _) hid e], s3.fz⟩
    · intro id o l e hl hp hlt
      rw [hS'] at e
      split at e <;> simp only [Option.some.injEq, reduceCtorEq] at e
      rename_i o' st e'
      exact s3.own id _ st l e' hl hp hlt
    · rw [hnx]; exact nn_mono h (Nat.zero_le n) (Nat.le_refl _)
    · intro id hid
      rw [hS', ov_up (i := 0) (Nat.zero_le _)]
      · simp only [ov]
        cases S.get id <;> rfl
      · intro j _ hjn _
        cases hc : ch j id with
        | none => rfl
        | some r =>
          have := (h.chL j hjn id (by rw [hc]; simp)).1
          have := h.lim j hjn
          omega
end
end
end Go.Eng
