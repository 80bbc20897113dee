/- Frames on abstract values, and their plain steps; no conditions. -/
import Derived.Test.YtdabbamabgfeoaaGreatEngI
namespace Go.Eng
noncomputable section

inductive AItem where
  | code (c : Code)
  | inBlock (id : Nat)
  | inLoop (c : Code)
  | inScope (c : Code)
  | ops (all : Array Oper) (todo : List Nat)
  | inRF (id : Nat)
  | endRF (id : Nat)
  | beg

inductive AMode where
  | run
  | returning
  | panicking (chain : List (AV × Bool))

inductive ADef where
  | call (fn : FuncId) (cap args : List AV)
  | coll (id : Nat)

/- A frame: the function, how many slots, which slots are kept from region to region, the slots, what is to do, deferred calls, the mode, of a deferred call the mode of its caller, of a round its loop. -/
structure AFrame where
  fn : FuncId
  n : Nat
  mask : Nat
  loc : List (Nat × AV)
  glob : List (Nat × AV)
  todo : List AItem
  defers : List ADef
  mode : AMode
  kind : CallKind
  cm : AMode
  round : Option Nat

def tb (m n : Nat) : Bool := Nat.beq (Nat.land (Nat.shiftRight m n) 1) 1

def AFrame.get (F : AFrame) (t : Nat) : Option AV :=
  match tb F.mask t with
  | true => lk F.glob t
  | false => lk F.loc t
def AFrame.set (F : AFrame) (t : Nat) (v : AV) : AFrame :=
  match Nat.ble (t + 1) F.n with
  | true => match tb F.mask t with
    | true => { F with glob := up F.glob t v }
    | false => { F with loc := (t, v) :: F.loc }
  | false => F
def AFrame.put (F : AFrame) (d : Option Tmp) (v : AV) : AFrame :=
  match d with
  | some t => F.set t v
  | none => F
def AFrame.eval (F : AFrame) : Operand → Option AV
  | .tmp t => F.get t
  | .const v => some (ofV v)
  | .global _ => none
  | .func f => some (.fn (.func f) [] [])

inductive ItemR (g : Gh) : AItem → Item → Prop
  | code {c : Code} : ItemR g (.code c) (.code c)
  | inBlock {id : Nat} : ItemR g (.inBlock id) (.inBlock id)
  | inLoop {c : Code} : ItemR g (.inLoop c) (.inLoop c)
  | inScope {c : Code} : ItemR g (.inScope c) (.inScope c)
  | ops {all : Array Oper} {l : List Nat} : ItemR g (.ops all l) (.inRegion all l)
  | inRF {id : Nat} {l : Loc} (hl : g.ph id = some l) : ItemR g (.inRF id) (.inRangeFunc l.blk)
  | endRF {id : Nat} {l : Loc} (hl : g.ph id = some l) : ItemR g (.endRF id) (.endRangeFunc l.blk)
  | beg : ItemR g .beg .beginRound
theorem ItemR.mono {g g' : Gh} (hg : Gh.le g g') {a : AItem} {b : Item} (h : ItemR g a b) : ItemR g' a b := by
  cases h with
  | code => exact .code
  | inBlock => exact .inBlock
  | inLoop => exact .inLoop
  | inScope => exact .inScope
  | ops => exact .ops
  | inRF hl => exact .inRF (hg.ph _ _ hl)
  | endRF hl => exact .endRF (hg.ph _ _ hl)
  | beg => exact .beg

inductive TodoR (g : Gh) : List AItem → List Item → Prop
  | nil : TodoR g [] []
  | cons {a : AItem} {b : Item} {l : List AItem} {m : List Item} (h : ItemR g a b) (t : TodoR g l m) : TodoR g (a :: l) (b :: m)
theorem TodoR.mono {g g' : Gh} (hg : Gh.le g g') {l : List AItem} {m : List Item} (h : TodoR g l m) : TodoR g' l m := by
  induction h with
  | nil => exact .nil
  | cons h _ ih => exact .cons (h.mono hg) ih

inductive ChainR (g : Gh) : List (AV × Bool) → List PanicEntry → Prop
  | nil : ChainR g [] []
  | cons {v : AV} {x : Value} {b : Bool} {l : List (AV × Bool)} {m : List PanicEntry} (h : VR g v x) (t : ChainR g l m) : ChainR g ((v, b) :: l) ({ v := x, recovered := b } :: m)
theorem ChainR.mono {g g' : Gh} (hg : Gh.le g g') {l : List (AV × Bool)} {m : List PanicEntry} (h : ChainR g l m) : ChainR g' l m := by
  induction h with
  | nil => exact .nil
  | cons h _ ih => exact .cons (h.mono hg) ih

inductive ModeR (g : Gh) : AMode → FrameMode → Prop
  | run : ModeR g .run .run
  | returning : ModeR g .returning .returning
  | panicking {l : List (AV × Bool)} {m : List PanicEntry} (h : ChainR g l m) : ModeR g (.panicking l) (.panicking m)
theorem ModeR.mono {g g' : Gh} (hg : Gh.le g g') {a : AMode} {b : FrameMode} (h : ModeR g a b) : ModeR g' a b := by
  cases h with
  | run => exact .run
  | returning => exact .returning
  | panicking h => exact .panicking (h.mono hg)

inductive DefsR (P : Program) (g : Gh) : List ADef → List Deferred → Prop
  | nil : DefsR P g [] []
  | cons {f : FuncId} {cap args : List AV} {ys xs : Array Value} {l : List ADef} {m : List Deferred} (hc : VRs g cap ys) (ha : VRs g args xs) (hb : bodyOk P f = true) (t : DefsR P g l m) :
      DefsR P g (.call f cap args :: l) ({ target := .fn (.func f) ys, args := xs } :: m)
  | coll {id : Nat} {l : Loc} {k : List ADef} {m : List Deferred} (hl : g.ph id = some l) (t : DefsR P g k m) : DefsR P g (.coll id :: k) ({ target := .collected l.blk, args := #[] } :: m)
theorem DefsR.mono {P : Program} {g g' : Gh} (hg : Gh.le g g') {l : List ADef} {m : List Deferred} (h : DefsR P g l m) : DefsR P g' l m := by
  induction h with
  | nil => exact .nil
  | cons hc ha hb _ ih => exact .cons (hc.mono hg) (ha.mono hg) hb ih
  | coll hl _ ih => exact .coll (hg.ph _ _ hl) ih

def RoundR (g : Gh) : Option Nat → Option Nat → Prop
  | none, none => True
  | some id, some b => ∃ l, g.ph id = some l ∧ l.blk = b
  | _, _ => False
theorem RoundR.mono {g g' : Gh} (hg : Gh.le g g') {a b : Option Nat} (h : RoundR g a b) : RoundR g' a b := by
  cases a <;> cases b <;> first | exact h | exact (let ⟨l, e, e'⟩ := h; ⟨l, hg.ph _ _ e, e'⟩)

structure FrR (P : Program) (g : Gh) (F : AFrame) (fr : Frame) : Prop where
  fn : fr.fn = F.fn
  size : fr.tmps.size = F.n
  get : ∀ t v, F.get t = some v → ∃ x, fr.tmps[t]? = some x ∧ VR g v x
  todo : TodoR g F.todo fr.todo
  defers : DefsR P g F.defers fr.defers
  mode : ModeR g F.mode fr.mode
  kind : fr.kind = F.kind
  round : RoundR g F.round fr.roundOf

theorem FrR.mono {P : Program} {g g' : Gh} (hg : Gh.le g g') {F : AFrame} {fr : Frame} (h : FrR P g F fr) : FrR P g' F fr :=
  ⟨h.fn, h.size, fun t v e => let ⟨x, a, b⟩ := h.get t v e; ⟨x, a, b.mono hg⟩, h.todo.mono hg, h.defers.mono hg, h.mode.mono hg, h.kind, h.round.mono hg⟩

/- The callers: but for the mode of a deferred call's caller they stay. -/
def CsR (g : Gh) (F : AFrame) (cs0 cs : List Frame) : Prop :=
  match F.kind with
  | .deferred => ∃ c rest m, cs0 = c :: rest ∧ cs = { c with mode := m } :: rest ∧ ModeR g F.cm m
  | _ => cs = cs0
theorem CsR.mono {g g' : Gh} (hg : Gh.le g g') {F : AFrame} {cs0 cs : List Frame} (h : CsR g F cs0 cs) : CsR g' F cs0 cs := by
  unfold CsR at *
  split at h
  · obtain ⟨c, rest, m, a, b, d⟩ := h; exact ⟨c, rest, m, a, b, d.mono hg⟩
  · exact h
theorem CsR.congr {g : Gh} {F F' : AFrame} {cs0 cs : List Frame} (hk : F'.kind = F.kind) (hc : F'.cm = F.cm) (h : CsR g F cs0 cs) : CsR g F' cs0 cs := by
  unfold CsR at *
  rw [hk, hc]; exact h

theorem OpR.of {P : Program} {g : Gh} {F : AFrame} {fr : Frame} (h : FrR P g F fr) : OpR g F.eval fr.eval := by
  intro x v e
  cases x with
  | tmp t =>
    obtain ⟨y, hy, hv⟩ := h.get t v e
    have : fr.eval (.tmp t) = y := by simp [Frame.eval, Array.getD_eq_getD_getElem?, hy]
    rw [this]; exact hv
  | const c => simp only [AFrame.eval, Option.some.injEq] at e; subst e; exact ofV_sound g c
  | global _ => simp [AFrame.eval] at e
  | func f => simp only [AFrame.eval, Option.some.injEq] at e; subst e; exact .fn rfl rfl (fun k a x e => by simp at e) (fun k a x e => by simp at e)

/- A slot that is set. -/
theorem FrR.put {P : Program} {g : Gh} {F : AFrame} {fr : Frame} (h : FrR P g F fr) {d : Option Tmp} {v : AV} {x : Value} (hv : VR g v x) {tmps : Array Value}
    (ht : tmps = match d with | some t => fr.tmps.setIfInBounds t x | none => fr.tmps) : FrR P g (F.put d v) { fr with tmps := tmps } := by
  cases d with
  | none => simp only at ht; subst ht; exact h
  | some t =>
    simp only at ht; subst ht
    simp only [AFrame.put, AFrame.set]
    have hsz := h.size
    have base : ∀ (F' : AFrame), F'.fn = F.fn → F'.n = F.n → F'.todo = F.todo → F'.defers = F.defers → F'.mode = F.mode → F'.kind = F.kind → F'.round = F.round →
        (∀ s u, F'.get s = some u → ∃ y, (fr.tmps.setIfInBounds t x)[s]? = some y ∧ VR g u y) → FrR P g F' { fr with tmps := fr.tmps.setIfInBounds t x } := by
      intro F' a1 a2 a3 a4 a5 a6 a7 a8
      exact ⟨by rw [a1]; exact h.fn, by rw [a2]; simpa using hsz, a8, by rw [a3]; exact h.todo, by rw [a4]; exact h.defers, by rw [a5]; exact h.mode, by rw [a6]; exact h.kind, by rw [a7]; exact h.round⟩
    split
    · rename_i hb
      have hb := Nat.le_of_ble_eq_true hb
      have hlt : t < fr.tmps.size := by rw [hsz]; exact hb
      split
      · rename_i hm
        refine base _ rfl rfl rfl rfl rfl rfl rfl fun s u e => ?_
        simp only [AFrame.get] at e
        by_cases hst : s = t
        · subst hst
          rw [hm] at e
          simp only [lk_up_same, Option.some.injEq] at e
          subst e
          exact ⟨x, by simp [hlt], hv⟩
        · have e' : F.get s = some u := by
            simp only [AFrame.get]
            split at e
            · rename_i hm'; rw [lk_up_other _ _ hst] at e; first | exact e | (rw [show tb F.mask s = true from hm']; exact e)
            · rename_i hm'; first | exact e | (rw [show tb F.mask s = false from hm']; exact e)
          obtain ⟨y, hy, hu⟩ := h.get s u e'
          exact ⟨y, by rw [Array.getElem?_setIfInBounds, if_neg (Ne.symm hst)]; exact hy, hu⟩
      · rename_i hm
        refine base _ rfl rfl rfl rfl rfl rfl rfl fun s u e => ?_
        simp only [AFrame.get] at e
        by_cases hst : s = t
        · subst hst
          rw [hm] at e
          simp only [lk_cons, Nat.beq_refl, Option.some.injEq] at e
          subst e
          exact ⟨x, by simp [hlt], hv⟩
        · have e' : F.get s = some u := by
            simp only [AFrame.get]
            split at e
            · rename_i hm'; first | exact e | (rw [show tb F.mask s = true from hm']; exact e)
            · rename_i hm'
              simp only [lk_cons] at e
              rw [show Nat.beq t s = false from by rw [Bool.eq_false_iff]; exact fun q => hst (Nat.eq_of_beq_eq_true q).symm] at e
              first | exact e | (rw [show tb F.mask s = false from hm']; exact e)
          obtain ⟨y, hy, hu⟩ := h.get s u e'
          exact ⟨y, by rw [Array.getElem?_setIfInBounds, if_neg (Ne.symm hst)]; exact hy, hu⟩
    · rename_i hb
      have hge : ¬ t < fr.tmps.size := by
        intro hlt
        rw [Nat.ble_eq_true_of_le (show t + 1 ≤ F.n by rw [← hsz]; exact hlt)] at hb; simp at hb
      refine base F rfl rfl rfl rfl rfl rfl rfl fun s u e => ?_
      obtain ⟨y, hy, hu⟩ := h.get s u e
      exact ⟨y, by rw [Array.getElem?_setIfInBounds]; split
                   · rename_i hst; subst hst; exact absurd (Array.getElem?_eq_some_iff.1 hy).1 hge
                   · exact hy, hu⟩

theorem AFrame.put_kind (F : AFrame) (d : Option Tmp) (v : AV) : (F.put d v).kind = F.kind ∧ (F.put d v).cm = F.cm ∧ (F.put d v).todo = F.todo ∧ (F.put d v).mode = F.mode ∧ (F.put d v).round = F.round ∧ (F.put d v).defers = F.defers := by
  cases d with
  | none => exact ⟨rfl, rfl, rfl, rfl, rfl, rfl⟩
  | some t =>
    simp only [AFrame.put, AFrame.set]
    split
    · split <;> exact ⟨rfl, rfl, rfl, rfl, rfl, rfl⟩
    · exact ⟨rfl, rfl, rfl, rfl, rfl, rfl⟩

/- To come from one state of a frame to another. -/
def Reach (P : Program) (F : AFrame) (S : Sto) (G : AFrame → Sto → Prop) : Prop :=
  ∀ (g : Gh) (w : World) (fr : Frame) (cs0 cs : List Frame), FrR P g F fr → CsR g F cs0 cs → Inv S g w →
    ∃ F' S' g' w' fr' cs', G F' S' ∧ FrR P g' F' fr' ∧ CsR g' F' cs0 cs' ∧ F'.kind = F.kind ∧ F'.fn = F.fn ∧ F'.round = F.round ∧ Inv S' g' w' ∧ Ext S g w S' g' w' ∧ Steps P (lone fr cs w) (lone fr' cs' w')

theorem Reach.done {P : Program} {F : AFrame} {S : Sto} {G : AFrame → Sto → Prop} (h : G F S) : Reach P F S G :=
  fun g w fr _ cs a b c => ⟨F, S, g, w, fr, cs, h, a, b, rfl, rfl, rfl, c, Ext.refl _ _ _, Steps.refl _ _⟩

theorem Reach.mono {P : Program} {F : AFrame} {S : Sto} {G G' : AFrame → Sto → Prop} (h : Reach P F S G) (hg : ∀ F' S', G F' S' → G' F' S') : Reach P F S G' :=
  fun g w fr cs0 cs a b c => let ⟨F', S', g', w', fr', cs', q, rest⟩ := h g w fr cs0 cs a b c; ⟨F', S', g', w', fr', cs', hg _ _ q, rest⟩

theorem Reach.trans {P : Program} {F : AFrame} {S : Sto} {G G' : AFrame → Sto → Prop} (h : Reach P F S G) (hg : ∀ F' S', G F' S' → Reach P F' S' G') : Reach P F S G' := by
  intro g w fr cs0 cs a b c
  obtain ⟨F1, S1, g1, w1, fr1, cs1, q, p1, p2, p3, p4, p5, p6, p7, p8⟩ := h g w fr cs0 cs a b c
  obtain ⟨F2, S2, g2, w2, fr2, cs2, q', r1, r2, r3, r4, r5, r6, r7, r8⟩ := hg F1 S1 q g1 w1 fr1 cs0 cs1 p1 p2 p6
  exact ⟨F2, S2, g2, w2, fr2, cs2, q', r1, r2, r3.trans p3, r4.trans p4, r5.trans p5, r6, p7.trans r7, Steps.trans p8 r8⟩

/- One step that leaves the world as it is. -/
theorem Reach.quiet {P : Program} {F F' : AFrame} {S : Sto} {G : AFrame → Sto → Prop} (h : Reach P F' S G) (hk : F'.kind = F.kind) (hf : F'.fn = F.fn) (hr : F'.round = F.round) (hc : F'.cm = F.cm)
    (hs : ∀ g w fr cs, FrR P g F fr → Inv S g w → ∃ fr', FrR P g F' fr' ∧ step P (lone fr cs w) = .next (lone fr' cs w)) : Reach P F S G := by
  intro g w fr cs0 cs a b c
  obtain ⟨fr', p1, p2⟩ := hs g w fr cs a c
  obtain ⟨F2, S2, g2, w2, fr2, cs2, q', r1, r2, r3, r4, r5, r6, r7, r8⟩ := h g w fr' cs0 cs p1 (b.congr hk hc) c
  exact ⟨F2, S2, g2, w2, fr2, cs2, q', r1, r2, r3.trans hk, r4.trans hf, r5.trans hr, r6, r7, Steps.head p2 r8⟩

/- Exits. -/
def aexit (id : Nat) : List AItem → Option (List AItem)
  | [] => none
  | .inBlock id' :: k => match Nat.beq id' id with
    | true => some k
    | false => aexit id k
  | _ :: k => aexit id k

theorem aexit_sound {g : Gh} {id : Nat} {l : List AItem} {m : List Item} (h : TodoR g l m) : match aexit id l with
    | some l' => ∃ m', exitTo id m = some m' ∧ TodoR g l' m'
    | none => exitTo id m = none := by
  induction h with
  | nil => simp [aexit, exitTo]
  | cons hh ht ih =>
    cases hh with
    | inBlock =>
      rename_i l m id'
      simp only [aexit, exitTo]
      cases hb : Nat.beq id' id with
      | true =>
        have : id' = id := Nat.eq_of_beq_eq_true hb
        subst this
        simp only [BEq.rfl, if_true]
        exact ⟨_, rfl, ht⟩
      | false =>
        have : (id' == id) = false := by
          rw [beq_eq_false_iff_ne]; intro e; subst e; rw [Nat.beq_refl] at hb; simp at hb
        simp only [this, Bool.false_eq_true, if_false]
        exact ih
    | _ => simp only [aexit, exitTo]; exact ih

/- Plain control. -/
def actl (F : AFrame) : Option AFrame :=
  match F.mode with
  | .run => match F.todo with
    | [] => match F.round with
      | none => some { F with mode := .returning }
      | some _ => none
    | .code .ret :: _ => match F.round with
      | none => some { F with mode := .returning }
      | some _ => none
    | .code .skip :: k => some { F with todo := k }
    | .code (.label _) :: k => some { F with todo := k }
    | .inBlock _ :: k => some { F with todo := k }
    | .inScope _ :: k => some { F with todo := k }
    | .code (.seq a b) :: k => some { F with todo := .code a :: .code b :: k }
    | .code (.cond c a b) :: k => match F.eval c with
      | some (.sc (.bool true)) => some { F with todo := .code a :: k }
      | some (.sc (.bool false)) => some { F with todo := .code b :: k }
      | _ => none
    | .code (.block id b) :: k => some { F with todo := .code b :: .inBlock id :: k }
    | .code (.loop b) :: k => some { F with todo := .code b :: .inLoop b :: k }
    | .inLoop b :: k => some { F with todo := .code b :: .inLoop b :: k }
    | .code (.scope b) :: k => some { F with todo := .code b :: .inScope b :: k }
    | .code (.exit id) :: k => match aexit id k with
      | some k' => some { F with todo := k' }
      | none => none
    | .code (.region _ all false) :: k => some { F with todo := .ops all (List.range all.size) :: k, loc := [] }
    | .ops _ [] :: k => some { F with todo := k, loc := [] }
    | _ => none
  | _ => none

theorem FrR.with {P : Program} {g : Gh} {F : AFrame} {fr : Frame} (h : FrR P g F fr) {l : List AItem} {m : List Item} (ht : TodoR g l m) : FrR P g { F with todo := l } { fr with todo := m } :=
  ⟨h.fn, h.size, h.get, ht, h.defers, h.mode, h.kind, h.round⟩
theorem FrR.locs {P : Program} {g : Gh} {F : AFrame} {fr : Frame} (h : FrR P g F fr) {l : List AItem} {m : List Item} (ht : TodoR g l m) : FrR P g { F with todo := l, loc := [] } { fr with todo := m } := by
  refine ⟨h.fn, h.size, ?_, ht, h.defers, h.mode, h.kind, h.round⟩
  intro t v e
  simp only [AFrame.get] at e
  split at e
  · rename_i hm
    exact h.get t v (by simp only [AFrame.get, hm]; exact e)
  · simp [lk_nil] at e

theorem actl_keeps {F F' : AFrame} (h : actl F = some F') : F'.kind = F.kind ∧ F'.fn = F.fn ∧ F'.round = F.round ∧ F'.cm = F.cm := by
  unfold actl at h
  split at h <;> try (simp at h; done)
  split at h <;> (try (split at h)) <;> simp only [Option.some.injEq, reduceCtorEq] at h <;> (subst h; exact ⟨rfl, rfl, rfl, rfl⟩)

theorem actl_sound {P : Program} {F F' : AFrame} (h : actl F = some F') (g : Gh) (w : World) (fr : Frame) (cs : List Frame) (hf : FrR P g F fr) :
    ∃ fr', FrR P g F' fr' ∧ step P (lone fr cs w) = .next (lone fr' cs w) := by
  have hev := OpR.of hf
  unfold actl at h
  split at h <;> try (simp at h; done)
  rename_i hmode
  have hm : fr.mode = .run := by
    have := hf.mode
    rw [hmode] at this
    generalize fr.mode = md at this ⊢
    cases this; rfl
  have ht := hf.todo
  have rnone : F.round = none → fr.roundOf = none := by
    intro e; have := hf.round; rw [e] at this; cases hr : fr.roundOf with
    | none => rfl
    | some b => rw [hr] at this; exact this.elim
  split at h
  · rename_i htodo
    rw [htodo] at ht
    split at h <;> simp only [Option.some.injEq, reduceCtorEq] at h
    rename_i hro
    subst h
    generalize htd : fr.todo = td at ht
    cases ht
    refine ⟨{ fr with mode := .returning }, ⟨hf.fn, hf.size, hf.get, hf.todo, hf.defers, .returning, hf.kind, hf.round⟩, step_lone_go ?_⟩
    simp [stepG, stepG.exec, hm, htd, rnone hro]
  · rename_i htodo
    rw [htodo] at ht
    split at h <;> simp only [Option.some.injEq, reduceCtorEq] at h
    rename_i hro
    subst h
    generalize htd : fr.todo = td at ht
    cases ht with | cons h1 h2 => ?_
    cases h1
    refine ⟨{ fr with mode := .returning }, ⟨hf.fn, hf.size, hf.get, hf.todo, hf.defers, .returning, hf.kind, hf.round⟩, step_lone_go ?_⟩
    simp [stepG, stepG.exec, hm, htd, rnone hro]
  all_goals first | (simp at h; done) | (rename_i htodo; rw [htodo] at ht; generalize htd : fr.todo = td at ht)
  · simp only [Option.some.injEq] at h; subst h
    cases ht with | cons h1 h2 => ?_
    cases h1
    exact ⟨_, hf.with h2, step_lone_go (by simp [stepG, stepG.exec, hm, htd])⟩
  · simp only [Option.some.injEq] at h; subst h
    cases ht with | cons h1 h2 => ?_
    cases h1
    exact ⟨_, hf.with h2, step_lone_go (by simp [stepG, stepG.exec, hm, htd])⟩
  · simp only [Option.some.injEq] at h; subst h
    cases ht with | cons h1 h2 => ?_
    cases h1
    exact ⟨_, hf.with h2, step_lone_go (by simp [stepG, stepG.exec, hm, htd])⟩
  · simp only [Option.some.injEq] at h; subst h
    cases ht with | cons h1 h2 => ?_
    cases h1
    exact ⟨_, hf.with h2, step_lone_go (by simp [stepG, stepG.exec, hm, htd])⟩
  · simp only [Option.some.injEq] at h; subst h
    cases ht with | cons h1 h2 => ?_
    cases h1
    exact ⟨_, hf.with (.cons .code (.cons .code h2)), step_lone_go (by simp [stepG, stepG.exec, hm, htd])⟩
  · rename_i c a b k
    cases ht with | cons h1 h2 => ?_
    cases h1
    have hb : ∀ t, F.eval c = some (.sc (.bool t)) → fr.eval c = .bool t := by
      intro t e; have := hev c _ e; generalize fr.eval c = y at this; cases this; rfl
    split at h <;> simp only [Option.some.injEq, reduceCtorEq] at h
    · rename_i e
      subst h
      exact ⟨_, hf.with (.cons .code h2), step_lone_go (by simp [stepG, stepG.exec, hm, htd, hb _ e])⟩
    · rename_i e
      subst h
      exact ⟨_, hf.with (.cons .code h2), step_lone_go (by simp [stepG, stepG.exec, hm, htd, hb _ e])⟩
  · simp only [Option.some.injEq] at h; subst h
    cases ht with | cons h1 h2 => ?_
    cases h1
    exact ⟨_, hf.with (.cons .code (.cons .inBlock h2)), step_lone_go (by simp [stepG, stepG.exec, hm, htd])⟩
  · simp only [Option.some.injEq] at h; subst h
    cases ht with | cons h1 h2 => ?_
    cases h1
    exact ⟨_, hf.with (.cons .code (.cons .inLoop h2)), step_lone_go (by simp [stepG, stepG.exec, hm, htd])⟩
  · simp only [Option.some.injEq] at h; subst h
    cases ht with | cons h1 h2 => ?_
    cases h1
    exact ⟨_, hf.with (.cons .code (.cons .inLoop h2)), step_lone_go (by simp [stepG, stepG.exec, hm, htd])⟩
  · simp only [Option.some.injEq] at h; subst h
    cases ht with | cons h1 h2 => ?_
    cases h1
    exact ⟨_, hf.with (.cons .code (.cons .inScope h2)), step_lone_go (by simp [stepG, stepG.exec, hm, htd])⟩
  · rename_i eid ek
    cases ht with | cons h1 h2 => ?_
    cases h1
    split at h <;> simp only [Option.some.injEq, reduceCtorEq] at h
    rename_i k' hk'
    subst h
    have := aexit_sound (id := eid) h2
    rw [hk'] at this
    obtain ⟨m', e1, e2⟩ := this
    exact ⟨_, hf.with e2, step_lone_go (by simp [stepG, stepG.exec, hm, htd, e1])⟩
  · simp only [Option.some.injEq] at h; subst h
    cases ht with | cons h1 h2 => ?_
    cases h1
    exact ⟨_, hf.locs (.cons .ops h2), step_lone_go (by simp [stepG, stepG.exec, hm, htd])⟩
  · simp only [Option.some.injEq] at h; subst h
    cases ht with | cons h1 h2 => ?_
    cases h1
    exact ⟨_, hf.locs h2, step_lone_go (by simp [stepG, stepG.exec, hm, htd])⟩

theorem Reach.ctl {P : Program} {F F' : AFrame} {S : Sto} {G : AFrame → Sto → Prop} (hs : actl F = some F') (h : Reach P F' S G) : Reach P F S G := by
  obtain ⟨a, b, c, d⟩ := actl_keeps hs
  exact h.quiet a b c d fun g w fr cs hf _ => actl_sound hs g w fr cs hf

end
end Go.Eng
