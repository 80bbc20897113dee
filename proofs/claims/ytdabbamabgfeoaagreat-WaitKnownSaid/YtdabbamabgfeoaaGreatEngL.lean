/- Bodies of functions, deferred calls, recover; no conditions. -/
import Derived.Test.YtdabbamabgfeoaaGreatEngK
namespace Go.Eng
noncomputable section

/- The results of a function. -/
def resL (P : Program) (F : AFrame) (S : Sto) : List ResultVar → Option (List AV)
  | [] => some []
  | .tmp t :: r => match F.get t with
    | some v => match resL P F S r with
      | some l => some (v :: l)
      | none => none
    | none => none
  | .cell a t :: r => match F.get a with
    | some p => match ptrCells S p with
      | some cs => match loadAV P t cs with
        | some v => match resL P F S r with
          | some l => some (v :: l)
          | none => none
        | none => none
      | none => none
    | none => none
def resAV (P : Program) (fn : Func) (F : AFrame) (S : Sto) : Option AV :=
  match resL P F S fn.results.toList with
  | some [v] => some v
  | some l => some (.tup l)
  | none => none

theorem resL_sound {P : Program} {F : AFrame} {S : Sto} {g : Gh} {w : World} {fr : Frame} (hf : FrR P g F fr) (hi : Inv S g w) : ∀ {rs : List ResultVar} {l : List AV}, resL P F S rs = some l →
    ∃ xs, (rs.mapM (fun | .tmp t => pure (fr.tmps.getD t undef) | .cell a t => do loadVar t (← asAddr (fr.tmps.getD a undef))) : Sem (List Value)).run P w = .ok xs w ∧ VRs g l xs.toArray := by
  intro rs
  induction rs with
  | nil => intro l h; simp only [resL, Option.some.injEq] at h; subst h; exact ⟨[], by simp, VRs.nil g⟩
  | cons r rs ih =>
    intro l h
    cases r with
    | tmp t =>
      simp only [resL] at h
      split at h <;> try (simp at h; done)
      rename_i v hv
      split at h <;> simp only [Option.some.injEq, reduceCtorEq] at h
      rename_i l' hl
      subst h
      obtain ⟨xs, e1, e2⟩ := ih hl
      obtain ⟨x, e3, e4⟩ := hf.get t v hv
      refine ⟨x :: xs, ?_, VRs.cons e4 e2⟩
      have : fr.tmps.getD t undef = x := by simp [Array.getD_eq_getD_getElem?, e3]
      simp only [List.mapM_cons, Sem.run_bind, this, Sem.run_pure, Result.andThen_ok]
      rw [e1]; simp
    | cell a t =>
      simp only [resL] at h
      split at h <;> try (simp at h; done)
      rename_i p hp
      split at h <;> try (simp at h; done)
      rename_i cs hcs
      split at h <;> try (simp at h; done)
      rename_i v hv
      split at h <;> simp only [Option.some.injEq, reduceCtorEq] at h
      rename_i l' hl
      subst h
      obtain ⟨xs, e1, e2⟩ := ih hl
      obtain ⟨x, e3, e4⟩ := hf.get a p hp
      obtain ⟨y, r1, r2⟩ := loadAV_sound (P := P) hi hcs hv e4
      obtain ⟨b, o, c, t', fz, rfl, _, _⟩ := ptrCells_sound hi hcs e4
      refine ⟨y :: xs, ?_, VRs.cons r2 e2⟩
      have : fr.tmps.getD a undef = .pointer (some ⟨b, o, none⟩) := by simp [Array.getD_eq_getD_getElem?, e3]
      have hl2 : (loadVar t ⟨b, o, none⟩).run P w = .ok y w := by simpa [Instr.loadAt, Instr.sureAddr] using r1
      have ha : (asAddr (fr.tmps.getD a undef)).run P w = .ok ⟨b, o, none⟩ w := by rw [this]; rfl
      simp only [List.mapM_cons, Sem.run_bind, ha, Sem.run_pure, Result.andThen_ok, hl2]
      rw [e1]; simp

theorem resAV_sound {P : Program} {fn : Func} {F : AFrame} {S : Sto} {g : Gh} {w : World} {fr : Frame} (hf : FrR P g F fr) (hi : Inv S g w) {v : AV} (h : resAV P fn F S = some v) : ∃ x, (results fn fr.tmps).run P w = .ok x w ∧ VR g v x := by
  unfold resAV at h
  have go : ∀ l, resL P F S fn.results.toList = some l → ∃ xs : List Value, (results fn fr.tmps).run P w = .ok (if h : xs.toArray.size = 1 then xs.toArray[0] else .tuple xs.toArray) w ∧ VRs g l xs.toArray := by
    intro l hl
    obtain ⟨xs, e1, e2⟩ := resL_sound hf hi hl
    refine ⟨xs, ?_, e2⟩
    simp only [results, Sem.run_bind]
    rw [Array.mapM_eq_mapM_toList]
    simp only [Sem.run_map]
    refine (congrArg (fun r => Result.andThen (Result.andThen r fun a w' => Result.ok a.toArray w') fun a w' => Sem.run P (pure (if h : a.size = 1 then a[0] else Value.tuple a)) w') e1).trans ?_
    simp
  split at h
  · rename_i v' hl
    simp only [Option.some.injEq] at h; subst h
    obtain ⟨xs, e1, e2⟩ := go _ hl
    obtain ⟨x, e3, e4⟩ := e2.get (k := 0) rfl
    have hs : xs.toArray.size = 1 := e2.1.symm
    refine ⟨x, ?_, e4⟩
    rw [e1, dif_pos hs]
    congr 1
    have := Array.getElem?_eq_getElem (xs := xs.toArray) (i := 0) (by omega)
    rw [this] at e3
    exact Option.some.inj e3
  · rename_i l hne hl
    simp only [Option.some.injEq] at h; subst h
    obtain ⟨xs, e1, e2⟩ := go _ hl
    have hs : ¬ xs.toArray.size = 1 := by
      intro hs
      have h1 := e2.1
      rw [hs] at h1
      match l, h1 with
      | [v], _ => exact hne v rfl
    exact ⟨_, by rw [e1, dif_neg hs], .tup e2.1 e2.2⟩
  · simp at h

/- The frame of a call. -/
def zipN : Nat → List AV → List (Nat × AV)
  | _, [] => []
  | n, v :: l => (n, v) :: zipN (n + 1) l
theorem lk_zipN (l : List AV) : ∀ (n t : Nat), lk (zipN n l) t = if n ≤ t then l[t - n]? else none := by
  induction l with
  | nil => intro n t; simp [zipN, lk_nil]
  | cons v l ih =>
    intro n t
    simp only [zipN, lk_cons]
    cases hb : Nat.beq n t with
    | true =>
      have : n = t := Nat.eq_of_beq_eq_true hb
      subst this; simp
    | false =>
      have hne : n ≠ t := by intro e; subst e; rw [Nat.beq_refl] at hb; simp at hb
      simp only [ih]
      by_cases h : n ≤ t
      · rw [if_pos h, if_pos (by omega), show t - n = (t - (n + 1)) + 1 from by omega, List.getElem?_cons_succ]
      · rw [if_neg h, if_neg (by omega)]

def AFrame.enter (f n mask : Nat) (c : Code) (args : List AV) (kind : CallKind) (cm : AMode) : AFrame :=
  { fn := f, n := max args.length n, mask := mask, loc := [], glob := zipN 0 args, todo := [.code c], defers := [], mode := .run, kind := kind, cm := cm, round := none }

theorem FrR.enter {P : Program} {g : Gh} {f : FuncId} {fn : Func} {c : Code} {args : List AV} {xs : Array Value} {kind : CallKind} {cm : AMode} {mask : Nat} (hf : P.funcs[f]? = some fn) (hb : fn.body = some c) (hx : VRs g args xs) :
    FrR P g (AFrame.enter f fn.ntmps mask c args kind cm) (Frame.enter P f xs kind) := by
  refine ⟨rfl, ?_, ?_, ?_, .nil, .run, rfl, trivial⟩
  · have := hx.1
    simp [Frame.enter, hf, AFrame.enter]; omega
  · intro t v e
    simp only [AFrame.get, AFrame.enter] at e
    split at e
    · rw [lk_zipN] at e
      simp only [Nat.zero_le, if_true, Nat.sub_zero] at e
      obtain ⟨x, e1, e2⟩ := hx.get e
      refine ⟨x, ?_, e2⟩
      simp only [Frame.enter]
      rw [Array.getElem?_append_left (Array.getElem?_eq_some_iff.1 e1).1]
      exact e1
    · simp [lk_nil] at e
  · simp only [AFrame.enter, Frame.enter, hf, Option.bind_some, hb, Option.getD_some]
    exact .cons .code .nil

/- The end of a call. -/
def Fin (P : Program) (fn : Func) (Q : Res → AMode → Sto → Prop) (F : AFrame) (S : Sto) : Prop :=
  F.defers = [] ∧ ((F.mode = .returning ∧ ∃ v, resAV P fn F S = some v ∧ Q (.ret v) F.cm S) ∨ ∃ l, F.mode = .panicking l ∧ Q (.pan l) F.cm S)

theorem DefsR.nil_of {P : Program} {g : Gh} {m : List Deferred} (h : DefsR P g [] m) : m = [] := by
  cases h; rfl

theorem FnC.of_body {P : Program} {f : FuncId} {fn : Func} {c : Code} {args : List AV} {S : Sto} {Q : Res → Sto → Prop} (mask : Nat) (hf : P.funcs[f]? = some fn) (hb : fn.body = some c)
    (h : Reach P (AFrame.enter f fn.ntmps mask c args .normal .run) S (Fin P fn fun r _ S' => Q r S')) : FnC P f args S Q := by
  intro g w xs hx hi cs
  obtain ⟨F', S', g', w', fr', cs', ⟨hd, hq⟩, p1, p2, p3, p4, p5, p6, p7, p8⟩ := h g w (Frame.enter P f xs .normal) cs cs (FrR.enter hf hb hx) (by simp [CsR, AFrame.enter]) hi
  have hk : F'.kind = .normal := p3
  have hcs : cs' = cs := by unfold CsR at p2; rw [hk] at p2; exact p2
  subst hcs
  have hfn : fr'.fn = f := p1.fn.trans p4
  have hdf : fr'.defers = [] := by have := p1.defers; rw [hd] at this; exact this.nil_of
  have hkd : fr'.kind = .normal := p1.kind.trans hk
  have hmode := p1.mode
  rcases hq with ⟨hm, v, hv, hQ⟩ | ⟨l, hm, hQ⟩
  · rw [hm] at hmode
    obtain ⟨x, e1, e2⟩ := resAV_sound p1 p6 hv
    have hm' : fr'.mode = .returning := by generalize fr'.mode = md at hmode ⊢; cases hmode; rfl
    exact ⟨.returned x, w', fr', ⟨.ret v, S', g', hQ, e2, p6, p7⟩, p8, hfn, hm', hdf, hkd, fn, by rw [hfn]; exact hf, e1⟩
  · rw [hm] at hmode
    obtain ⟨m, hm', hch⟩ : ∃ m, fr'.mode = .panicking m ∧ ChainR g' l m := by generalize fr'.mode = md at hmode ⊢; cases hmode with | panicking h => exact ⟨_, rfl, h⟩
    exact ⟨.panicked m, w', fr', ⟨.pan l, S', g', hQ, hch, p6, p7⟩, p8, hfn, hm', hdf, fn, by rw [hfn]; exact hf⟩

/- A contract of a deferred call: the mode of its caller may turn. -/
def DfC (P : Program) (f : FuncId) (args : List AV) (S : Sto) (cm : AMode) (Q : Res → AMode → Sto → Prop) : Prop :=
  ∀ (g : Gh) (w : World) (xs : Array Value) (u : FrameMode), VRs g args xs → Inv S g w → ModeR g cm u →
    CallsD P f xs u w fun e u' w' => ∃ r cm' S' g', Q r cm' S' ∧ ResR g' r e ∧ ModeR g' cm' u' ∧ Inv S' g' w' ∧ Ext S g w S' g' w'

theorem DfC.of_body {P : Program} {f : FuncId} {fn : Func} {c : Code} {args : List AV} {S : Sto} {cm : AMode} {Q : Res → AMode → Sto → Prop} (mask : Nat) (hf : P.funcs[f]? = some fn) (hb : fn.body = some c)
    (h : Reach P (AFrame.enter f fn.ntmps mask c args .deferred cm) S (Fin P fn Q)) : DfC P f args S cm Q := by
  intro g w xs u hx hi hu c0 cs hc0
  obtain ⟨F', S', g', w', fr', cs', ⟨hd, hq⟩, p1, p2, p3, p4, p5, p6, p7, p8⟩ := h g w (Frame.enter P f xs .deferred) (c0 :: cs) (c0 :: cs) (FrR.enter hf hb hx)
    (by simp only [CsR, AFrame.enter]; exact ⟨c0, cs, u, rfl, by subst hc0; rfl, hu⟩) hi
  have hk : F'.kind = .deferred := p3
  unfold CsR at p2
  rw [hk] at p2
  obtain ⟨c1, rest, m, q1, q2, q3⟩ := p2
  simp only [List.cons.injEq] at q1
  obtain ⟨rfl, rfl⟩ := q1
  subst q2
  have hfn : fr'.fn = f := p1.fn.trans p4
  have hdf : fr'.defers = [] := by have := p1.defers; rw [hd] at this; exact this.nil_of
  have hkd : fr'.kind = .deferred := p1.kind.trans hk
  have hmode := p1.mode
  rcases hq with ⟨hm, v, hv, hQ⟩ | ⟨l, hm, hQ⟩
  · rw [hm] at hmode
    obtain ⟨x, e1, e2⟩ := resAV_sound p1 p6 hv
    have hm' : fr'.mode = .returning := by generalize fr'.mode = md at hmode ⊢; cases hmode; rfl
    exact ⟨.returned x, m, w', fr', ⟨.ret v, F'.cm, S', g', hQ, e2, q3, p6, p7⟩, p8, hkd, hm', hdf, fn, by rw [hfn]; exact hf, e1⟩
  · rw [hm] at hmode
    obtain ⟨mm, hm', hch⟩ : ∃ m, fr'.mode = .panicking m ∧ ChainR g' l m := by generalize fr'.mode = md at hmode ⊢; cases hmode with | panicking h => exact ⟨_, rfl, h⟩
    exact ⟨.panicked mm, m, w', fr', ⟨.pan l, F'.cm, S', g', hQ, hch, q3, p6, p7⟩, p8, hkd, hm', hdf, fn, by rw [hfn]; exact hf⟩

def asettle : AMode → AMode
  | .panicking ((_, true) :: _) => .returning
  | m => m
def araised (u : AMode) (chain : List (AV × Bool)) : AMode :=
  match u with
  | .panicking old => .panicking (chain ++ old)
  | _ => .panicking chain
theorem ChainR.noexit {g : Gh} {l : List (AV × Bool)} {m : List PanicEntry} (h : ChainR g l m) : m.dropWhile (!·.goexit) = [] := by
  induction h with
  | nil => rfl
  | cons _ _ ih => simp [List.dropWhile, ih]
theorem asettle_sound {g : Gh} {a : AMode} {b : FrameMode} (h : ModeR g a b) : ModeR g (asettle a) (settle b) := by
  cases h with
  | run => exact .run
  | returning => exact .returning
  | panicking h =>
    cases h with
    | nil => exact .panicking .nil
    | cons hv ht =>
      rename_i v x b l m
      cases b with
      | true => simp only [asettle, settle, ht.noexit]; exact .returning
      | false => exact .panicking (.cons hv ht)
theorem ChainR.append {g : Gh} {l l' : List (AV × Bool)} {m m' : List PanicEntry} (h : ChainR g l m) (h' : ChainR g l' m') : ChainR g (l ++ l') (m ++ m') := by
  induction h with
  | nil => exact h'
  | cons hv _ ih => exact .cons hv ih
theorem araised_sound {g : Gh} {a : AMode} {b : FrameMode} {l : List (AV × Bool)} {m : List PanicEntry} (h : ModeR g a b) (hc : ChainR g l m) : ModeR g (araised a l) (raised b m) := by
  cases h with
  | run => exact .panicking hc
  | returning => exact .panicking hc
  | panicking h => exact .panicking (hc.append h)

def amodeAfter (r : Res) (cm : AMode) : AMode :=
  match r with
  | .ret _ => asettle cm
  | .pan l => araised cm l

theorem Reach.unwind {P : Program} {F : AFrame} {S : Sto} {G : AFrame → Sto → Prop} {f : FuncId} {cap args : List AV} {ds : List ADef} {Q : Res → AMode → Sto → Prop} (hm : F.mode ≠ .run) (hd : F.defers = .call f cap args :: ds)
    (hc : DfC P f (args ++ cap) S F.mode Q) (h : ∀ r cm S', Q r cm S' → Reach P { F with defers := ds, mode := amodeAfter r cm } S' G) : Reach P F S G := by
  intro g w fr cs0 cs hf hcs hi
  have hdf := hf.defers
  rw [hd] at hdf
  generalize htd : fr.defers = fd at hdf
  cases hdf with | cons hcap hargs hbody ht => ?_
  rename_i ys xs m
  have hmr : fr.mode ≠ .run := by
    intro e
    have := hf.mode
    rw [e] at this
    generalize hmm : F.mode = md at this
    cases this
    exact hm hmm
  have h1 := step_defer (P := P) (cs := cs) (w := w) (args := xs ++ ys) (f := f) hmr htd rfl (by simp only [invoke]; exact run_callFunc' hbody)
  obtain ⟨e, u', w', frX, ⟨r, cm', S', g', hq, hres, hcm, hi', hx⟩, hsteps, hkX, hgo⟩ := hc g w (xs ++ ys) fr.mode (VRs.append hargs hcap) hi hf.mode { fr with defers := m } cs rfl
  obtain ⟨c2, hc2⟩ : ∃ c : Frame, c = { { fr with defers := m } with mode := u' } := ⟨_, rfl⟩
  rw [← hc2] at hsteps
  have fin : ∀ md, step P (lone frX (c2 :: cs) w') = .next (lone { c2 with mode := md } cs w') → ModeR g' (amodeAfter r cm') md →
      Steps P (lone (Frame.enter P f (xs ++ ys) .deferred) ({ fr with defers := m } :: cs) w) (lone frX (c2 :: cs) w') →
      ∃ F' S'' g'' w'' fr' cs', G F' S'' ∧ FrR P g'' F' fr' ∧ CsR g'' F' cs0 cs' ∧ F'.kind = F.kind ∧ F'.fn = F.fn ∧ F'.round = F.round ∧ Inv S'' g'' w'' ∧ Ext S g w S'' g'' w'' ∧ Steps P (lone fr cs w) (lone fr' cs' w'') := by
    intro md hst hmd hs1
    have hf' := hf.mono hx.gle
    have hfr : FrR P g' { F with defers := ds, mode := amodeAfter r cm' } { c2 with mode := md } := by
      subst hc2
      exact ⟨hf'.fn, hf'.size, hf'.get, hf'.todo, ht.mono hx.gle, hmd, hf'.kind, hf'.round⟩
    obtain ⟨F2, S2, g2, w2, fr3, cs2, q', p1, p2, p3, p4, p5, p6, p7, p8⟩ := h r cm' S' hq g' w' { c2 with mode := md } cs0 cs hfr ((hcs.mono hx.gle).congr rfl rfl) hi'
    exact ⟨F2, S2, g2, w2, fr3, cs2, q', p1, p2, p3, p4, p5, p6, hx.trans p7, Steps.head h1 (Steps.trans hs1 (Steps.head hst p8))⟩
  have hu : c2.mode = u' := by rw [hc2]
  cases r with
  | ret v =>
    cases e with
    | returned x => exact fin _ (step_going_returned hkX hgo) (by rw [hu]; exact asettle_sound hcm) hsteps
    | panicked c => exact hres.elim
    | outgrown => exact hres.elim
  | pan l =>
    cases e with
    | returned x => exact hres.elim
    | panicked c => exact fin _ (step_going_panicked hgo) (by rw [hu]; exact araised_sound hcm hres) hsteps
    | outgrown => exact hres.elim

/- recover. -/
def arecover : AMode → Option (AV × AMode)
  | .panicking ((v, false) :: older) => some (v, .panicking ((v, true) :: older))
  | _ => none

theorem Reach.op_rcv {P : Program} {F : AFrame} {S : Sto} {G : AFrame → Sto → Prop} {all : Array Oper} {i : Nat} {rest : List Nat} {k : List AItem} {o : Oper}
    (hm : F.mode = .run) (ht : F.todo = .ops all (i :: rest) :: k) (ho : all[i]? = some o) (hg : agd F all o = some true) (hk : F.kind = .deferred) (hr : F.round = none)
    (ha : aop P F.eval S o.op = some .rcv)
    (h : Reach P (match arecover F.cm with
      | some (v, cm) => { F.after o v all rest k with cm := cm }
      | none => F.after o (.sc .nilIface) all rest k) S G) : Reach P F S G := by
  intro g w fr cs0 cs hf hcs hi
  obtain ⟨m, e1, e2⟩ := hf.split ht
  have r1 : (execOp fr.eval o).run P w = .ok .recover w := aop_sound hi (OpR.of hf) ha
  have hrun := hf.runs hm
  have hro := hf.noround hr
  have hs := stepG_oper (P := P) (cs := cs) (w := w) hrun e1 ho (agd_sound hf hg) (.inl hro)
  have hkd : fr.kind = .deferred := hf.kind.trans hk
  have htr := tryRecover_deferred hkd cs
  unfold CsR at hcs
  rw [hk] at hcs
  obtain ⟨c0, crest, cmode, q1, q2, q3⟩ := hcs
  have keep := fun v => F.after_keeps o v all rest k
  cases hrec : arecover F.cm with
  | some p =>
    obtain ⟨v, cm⟩ := p
    rw [hrec] at h
    simp only at h
    unfold arecover at hrec
    split at hrec <;> simp only [Option.some.injEq, Prod.mk.injEq, reduceCtorEq] at hrec
    rename_i v' older hcm
    obtain ⟨rfl, rfl⟩ := hrec
    rw [hcm] at q3
    cases q3 with | panicking hch => ?_
    cases hch with | cons hv ht' => ?_
    rename_i x mm
    have hrd : recoverD cs = some (x, { c0 with mode := .panicking ({ v := x, recovered := true } :: mm) } :: crest) := by rw [q2]; rfl
    have hst : step P (lone fr cs w) = .next (lone (fr.finish x) ({ c0 with mode := .panicking ({ v := x, recovered := true } :: mm) } :: crest) w) := by
      refine step_lone_go ?_
      rw [hs]; simp [stepG.apply, r1, hro, htr, hrd]
    have hfa := hf.after (v := v') e1 e2 ho hv
    obtain ⟨F2, S2, g2, w2, fr3, cs2, q', p1, p2, p3, p4, p5, p6, p7, p8⟩ := h g w (fr.finish x) cs0 ({ c0 with mode := .panicking ({ v := x, recovered := true } :: mm) } :: crest)
      ⟨hfa.fn, hfa.size, hfa.get, hfa.todo, hfa.defers, hfa.mode, hfa.kind, hfa.round⟩
      (by unfold CsR; rw [show ({ F.after o v' all rest k with cm := AMode.panicking ((v', true) :: older) } : AFrame).kind = .deferred from (keep v').1.trans hk]; exact ⟨c0, crest, _, q1, rfl, .panicking (.cons hv ht')⟩) hi
    exact ⟨F2, S2, g2, w2, fr3, cs2, q', p1, p2, p3.trans (keep v').1, p4.trans (keep v').2.1, p5.trans (keep v').2.2.1, p6, p7, Steps.head hst p8⟩
  | none =>
    rw [hrec] at h
    simp only at h
    have hrd : recoverD cs = none := by
      rw [q2]
      simp only [recoverD]
      generalize F.cm = acm at q3 hrec
      cases q3 with
      | run => rfl
      | returning => rfl
      | panicking hch =>
        cases hch with
        | nil => rfl
        | cons hv ht' =>
          rename_i v x b l m
          cases b with
          | false => simp [arecover] at hrec
          | true => rfl
    have hst : step P (lone fr cs w) = .next (lone (fr.finish .nilIface) cs w) := by
      refine step_lone_go ?_
      rw [hs]; simp [stepG.apply, r1, hro, htr, hrd]
    have hfa := hf.after (v := .sc .nilIface) (x := .nilIface) e1 e2 ho (.sc rfl)
    obtain ⟨F2, S2, g2, w2, fr3, cs2, q', p1, p2, p3, p4, p5, p6, p7, p8⟩ := h g w (fr.finish .nilIface) cs0 cs hfa
      (by unfold CsR; rw [(keep (.sc .nilIface)).1.trans hk, (keep (.sc .nilIface)).2.2.2]; exact ⟨c0, crest, cmode, q1, q2, q3⟩) hi
    exact ⟨F2, S2, g2, w2, fr3, cs2, q', p1, p2, p3.trans (keep _).1, p4.trans (keep _).2.1, p5.trans (keep _).2.2.1, p6, p7, Steps.head hst p8⟩

end
end Go.Eng
