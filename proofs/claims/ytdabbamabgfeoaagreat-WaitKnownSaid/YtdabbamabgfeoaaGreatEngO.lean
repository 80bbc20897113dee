/- Loops over functions; no conditions. -/
import Derived.Test.YtdabbamabgfeoaaGreatEngM
namespace Go.Eng
noncomputable section

def maskOnly (m : Nat) : List (Nat × AV) → List (Nat × AV)
  | [] => []
  | (t, v) :: r => match tb m t with
    | true => (t, v) :: maskOnly m r
    | false => maskOnly m r
theorem lk_maskOnly {m : Nat} : ∀ {l : List (Nat × AV)} {t : Nat} {v : AV}, lk (maskOnly m l) t = some v → tb m t = true ∧ lk l t = some v := by
  intro l
  induction l with
  | nil => intro t v h; simp [maskOnly, lk_nil] at h
  | cons a r ih =>
    obtain ⟨k, u⟩ := a
    intro t v h
    simp only [maskOnly] at h
    cases hm : tb m k with
    | true =>
      rw [hm] at h
      simp only [lk_cons] at h ⊢
      cases hb : Nat.beq k t with
      | true =>
        rw [hb] at h
        have : k = t := Nat.eq_of_beq_eq_true hb
        subst this; exact ⟨hm, h⟩
      | false => rw [hb] at h; exact ih h
    | false =>
      rw [hm] at h
      have := ih h
      refine ⟨this.1, ?_⟩
      simp only [lk_cons]
      cases hb : Nat.beq k t with
      | true =>
        have : k = t := Nat.eq_of_beq_eq_true hb
        subst this; rw [hm] at this; simp at this
      | false => exact this.2

/- The frame of a loop, the function on its way. -/
def AFrame.inLoopF (F : AFrame) (d l : Nat) (k : List AItem) : AFrame := { F with todo := .inRF l :: k, defers := .coll d :: F.defers }
def AFrame.backF (F : AFrame) (d l : Nat) (k : List AItem) : Res → AFrame
  | .ret _ => { F with todo := .endRF l :: k, defers := .coll d :: F.defers }
  | .pan c => { F.inLoopF d l k with mode := .panicking c }
def AFrame.loopS (F : AFrame) (S : Sto) (params : Array Tmp) (assign body : Code) : Sto :=
  (S.add (.df true)).add (.lp .ready none F.fn F.n F.mask (maskOnly F.mask F.glob) params.toList assign body)

theorem Reach.rangeFunc {P : Program} {F : AFrame} {S : Sto} {G : AFrame → Sto → Prop} {k : List AItem} {f : Operand} {params : Array Tmp} {assign body : Code} {fn : FuncId} {first cap : List AV} {Q : Res → Sto → Prop}
    (hm : F.mode = .run) (ht : F.todo = .code (.rangeFunc f params assign body) :: k) (hr : F.round = none) (hf0 : F.eval f = some (.fn (.func fn) first cap)) (hb : bodyOk P fn = true)
    (h1 : S.nx + 1 < 8192) (h2 : S.lim ≤ S.nx)
    (hc : FnC P fn (first ++ [.yld (S.nx + 1)] ++ cap) (F.loopS S params assign body) Q)
    (h : ∀ r S', Q r S' → Reach P (F.backF S.nx (S.nx + 1) k r) S' G) : Reach P F S G := by
  intro g w fr cs0 cs hf hcs hi
  have hrun := hf.runs hm
  have hro := hf.noround hr
  have htd := hf.todo
  rw [ht] at htd
  generalize hftd : fr.todo = td at htd
  cases htd with | cons q1 q2 => ?_
  cases q1
  rename_i m
  have hev := OpR.of hf f _ hf0
  generalize hfv : fr.eval f = fv at hev
  cases hev with | fn hx hy hxr hyr => ?_
  rename_i xs ys
  obtain ⟨i1, e1⟩ := hi.alloc (w' := w.alloc (.deferred (some []))) (by omega) (o := .df true) (ob := .deferred (some [])) (l := ⟨w.heap.size, 0, 0, 0⟩) rfl rfl rfl rfl rfl rfl h2
  have hf1 := hf.mono e1.gle
  obtain ⟨i2, e2⟩ := i1.alloc (w' := (w.alloc (.deferred (some []))).alloc (.loop { state := .ready, pending := none, fn := fr.fn, tmps := fr.tmps, params, assign, body, defers := w.heap.size })) (by show S.nx + 1 < 8192; omega)
    (o := .lp .ready none F.fn F.n F.mask (maskOnly F.mask F.glob) params.toList assign body) (ob := .loop { state := .ready, pending := none, fn := fr.fn, tmps := fr.tmps, params, assign, body, defers := w.heap.size })
    (l := ⟨w.heap.size + 1, 0, 0, 0⟩) (by simp) ⟨_, rfl, rfl, rfl, hf1.fn, hf1.size, fun t v e => by
      obtain ⟨a, b⟩ := lk_maskOnly e
      exact hf1.get t v (by simp only [AFrame.get, a]; exact b), by simp, rfl, rfl⟩ rfl rfl rfl rfl (by show S.lim ≤ S.nx + 1; omega)
  have he := e1.trans e2
  generalize hg2 : (g.add S.nx ⟨w.heap.size, 0, 0, 0⟩).add (S.add (.df true)).nx ⟨w.heap.size + 1, 0, 0, 0⟩ = g2 at *
  generalize hw2 : (w.alloc (.deferred (some []))).alloc (.loop { state := .ready, pending := none, fn := fr.fn, tmps := fr.tmps, params, assign, body, defers := w.heap.size }) = w2 at *
  have hl : g2.ph (S.nx + 1) = some ⟨w.heap.size + 1, 0, 0, 0⟩ := by rw [← hg2]; exact Gh.add_same _ _ _
  have hd : g2.ph S.nx = some ⟨w.heap.size, 0, 0, 0⟩ := by rw [← hg2, Gh.add_other _ _ (by show S.nx ≠ S.nx + 1; omega)]; exact Gh.add_same _ _ _
  have hf2 := hf.mono he.gle
  obtain ⟨frL, hfrL⟩ : ∃ x : Frame, x = { fr with todo := .inRangeFunc (w.heap.size + 1) :: m, defers := { target := .collected w.heap.size, args := #[] } :: fr.defers } := ⟨_, rfl⟩
  have hev' : frL.eval f = .func (.func fn) xs ys := by rw [← hfv, hfrL]; cases f <;> rfl
  have hev2 : frL.eval (.const (.func (.yield (w.heap.size + 1)) #[] #[])) = .func (.yield (w.heap.size + 1)) #[] #[] := by rw [hfrL]; rfl
  have hcall : (do let d ← resolve frL.eval { callee := .value f, args := #[.const (.func (.yield (w.heap.size + 1)) #[] #[])], argTypes := #[] } 0; invoke d.target d.args : Sem Next).run P w2 =
      .ok (.enter fn (xs ++ #[.func (.yield (w.heap.size + 1)) #[] #[]] ++ ys)) w2 := by
    simp only [resolve, Sem.run_bind, Sem.run_pure, Result.andThen_ok, invoke, hev', Deferred.ofValue, List.map_toArray, List.map_cons, List.map_nil, hev2, run_callFunc' hb]
  have hent : (Instr.enterLoop fr.fn fr.tmps params assign body fr.roundOf).run P w = .ok (w.heap.size + 1, [{ target := .collected w.heap.size, args := #[] }]) w2 := by
    rw [hro, ← hw2]
    simp [Instr.enterLoop]
  have hst : step P (lone fr cs w) = .next (lone (Frame.enter P fn (xs ++ #[.func (.yield (w.heap.size + 1)) #[] #[]] ++ ys) .normal) (frL :: cs) w2) := by
    refine step_lone_go ?_
    have hft : frL.todo = .inRangeFunc (w.heap.size + 1) :: m := by rw [hfrL]
    have hfrL2 : ({ fn := fr.fn, tmps := fr.tmps, todo := .inRangeFunc (w.heap.size + 1) :: m, defers := { target := .collected w.heap.size, args := #[] } :: fr.defers, mode := .run, kind := fr.kind, roundOf := fr.roundOf } : Frame) = frL := by rw [hfrL, hrun]
    simp only [stepG, stepG.exec, hrun, hftd, Sem.runT_eq, hent, GStep.bare_after, List.singleton_append, hfrL2]
    simp [stepG.apply, hcall, hft]
  have hargs : VRs g2 (first ++ [.yld (S.nx + 1)] ++ cap) (xs ++ #[.func (.yield (w.heap.size + 1)) #[] #[]] ++ ys) :=
    VRs.append (VRs.append ⟨hx, fun a b c d e => (hxr a b c d e).mono he.gle⟩ (VRs.cons (xs := []) (.yld hl) (VRs.nil g2))) ⟨hy, fun a b c d e => (hyr a b c d e).mono he.gle⟩
  obtain ⟨e, w', fr1, ⟨r, S', g', hq, hres, hi', hx'⟩, hsteps, _, hleave⟩ := hc g2 w2 _ hargs i2 (frL :: cs)
  have hxx := he.trans hx'
  have go : ∀ fr2, step P (lone fr1 (frL :: cs) w') = .next (lone fr2 cs w') → FrR P g' (F.backF S.nx (S.nx + 1) k r) fr2 → Steps P (lone (Frame.enter P fn (xs ++ #[.func (.yield (w.heap.size + 1)) #[] #[]] ++ ys) .normal) (frL :: cs) w2) (lone fr1 (frL :: cs) w') →
      ∃ F' S'' g'' w'' fr' cs', G F' S'' ∧ FrR P g'' F' fr' ∧ CsR g'' F' cs0 cs' ∧ F'.kind = F.kind ∧ F'.fn = F.fn ∧ F'.round = F.round ∧ Inv S'' g'' w'' ∧ Ext S g w S'' g'' w'' ∧ Steps P (lone fr cs w) (lone fr' cs' w'') := by
    intro fr2 hst2 hfr hs1
    have hkeep : (F.backF S.nx (S.nx + 1) k r).kind = F.kind ∧ (F.backF S.nx (S.nx + 1) k r).fn = F.fn ∧ (F.backF S.nx (S.nx + 1) k r).round = F.round ∧ (F.backF S.nx (S.nx + 1) k r).cm = F.cm := by
      cases r <;> exact ⟨rfl, rfl, rfl, rfl⟩
    obtain ⟨F2, S2, g3, w3, fr3, cs2, q', p1, p2, p3, p4, p5, p6, p7, p8⟩ := h r S' hq g' w' fr2 cs0 cs hfr ((hcs.mono hxx.gle).congr hkeep.1 hkeep.2.2.2) hi'
    exact ⟨F2, S2, g3, w3, fr3, cs2, q', p1, p2, p3.trans hkeep.1, p4.trans hkeep.2.1, p5.trans hkeep.2.2.1, p6, hxx.trans p7, Steps.head hst (Steps.trans hs1 (Steps.head hst2 p8))⟩
  have hf' := hf.mono hxx.gle
  have hl' := hx'.gle.ph _ _ hl
  have hd' := hx'.gle.ph _ _ hd
  cases r with
  | ret v =>
    cases e with
    | returned x =>
      refine go _ (step_leave_returned hleave) ?_ hsteps
      rw [hfrL]
      exact ⟨hf'.fn, hf'.size, hf'.get, .cons (.endRF hl') (q2.mono hxx.gle), .coll hd' hf'.defers, hf'.mode, hf'.kind, hf'.round⟩
    | panicked c => exact hres.elim
    | outgrown => exact hres.elim
  | pan l =>
    cases e with
    | returned x => exact hres.elim
    | panicked c =>
      refine go _ (step_leave_panicked hleave) ?_ hsteps
      have : frL.raise c = { frL with mode := .panicking c } := by simp [Frame.raise, hfrL, hrun]
      rw [this, hfrL]
      exact ⟨hf'.fn, hf'.size, hf'.get, .cons (.inRF hl') (q2.mono hxx.gle), .coll hd' hf'.defers, .panicking hres, hf'.kind, hf'.round⟩
    | outgrown => exact hres.elim

/- The end of a loop. -/
def jumpTo (pend : Option Code) (k : List AItem) : List AItem :=
  match pend with
  | some c => .code c :: k
  | none => k
theorem Reach.endRF {P : Program} {F : AFrame} {S : Sto} {G : AFrame → Sto → Prop} {k : List AItem} {id : Nat} {st : LoopState} {pend : Option Code} {fn n mask : Nat} {env : List (Nat × AV)} {params : List Tmp} {assign body : Code}
    (hm : F.mode = .run) (ht : F.todo = .endRF id :: k) (hg : S.get id = some (.lp st pend fn n mask env params assign body)) (hst : (st == .busy) = false) (hl : S.lim ≤ id)
    (h : Reach P { F with todo := jumpTo pend k, loc := [] } (S.set id (.lp .exhausted pend fn n mask env params assign body)) G) : Reach P F S G := by
  refine h.turn rfl rfl rfl rfl fun g w fr cs hf hi => ?_
  have hrun := hf.runs hm
  have htd := hf.todo
  rw [ht] at htd
  generalize hftd : fr.todo = td at htd
  cases htd with | cons q1 q2 => ?_
  cases q1
  rename_i m l hl0
  obtain ⟨l', a1, a2, a3⟩ := hi.ob _ _ hg
  rw [hl0] at a1; simp only [Option.some.injEq] at a1; subst a1
  obtain ⟨lo, b1, b2, b3, b4, b5, b6, b7, b8, b9⟩ := a3
  have hlt := (Array.getElem?_eq_some_iff.1 b1).1
  have hend : (Instr.endLoop l.blk).run P w = .ok pend { w with heap := w.heap.setIfInBounds l.blk (.loop { lo with state := .exhausted }) } := by
    simp only [Instr.endLoop, Instr.getLoop, Sem.run_bind, getObj, Sem.run, b1, Result.andThen_ok, Sem.run_pure, b2, hst]
    simp [setObj, Sem.run, b1, b3]
  obtain ⟨u1, u2⟩ := hi.upd (w' := { w with heap := w.heap.setIfInBounds l.blk (.loop { lo with state := .exhausted }) }) (ob' := .loop { lo with state := .exhausted }) (o' := .lp .exhausted pend fn n mask env params assign body) hg hl hl0 (by simp)
    (by show (w.heap.setIfInBounds l.blk _)[l.blk]? = _; simp [hlt]) (by intro j hj; show (w.heap.setIfInBounds l.blk _)[j]? = _; rw [Array.getElem?_setIfInBounds, if_neg (Ne.symm hj)]) rfl rfl rfl
    ⟨_, rfl, rfl, b3, b4, b5, b6, b7, b8, b9⟩
  have hq2 : TodoR g (jumpTo pend k) ((pend.map Item.code).toList ++ m) := by
    cases pend with
    | none => exact q2
    | some c => exact .cons .code q2
  refine ⟨{ fr with todo := (pend.map Item.code).toList ++ m }, _, g, hf.locs hq2, u1, u2, .one (step_lone_go ?_)⟩
  simp [stepG, stepG.exec, hrun, hftd, Sem.runT_eq, hend]
/- The deferred calls of a loop: none. -/
theorem Reach.coll {P : Program} {F : AFrame} {S : Sto} {G : AFrame → Sto → Prop} {id : Nat} {ds : List ADef} (hm : F.mode ≠ .run) (hd : F.defers = .coll id :: ds) (hg : S.get id = some (.df true)) (hl : S.lim ≤ id)
    (h : Reach P { F with defers := ds } (S.set id (.df false)) G) : Reach P F S G := by
  refine h.turn rfl rfl rfl rfl fun g w fr cs hf hi => ?_
  have hdf := hf.defers
  rw [hd] at hdf
  generalize hfd : fr.defers = fd at hdf
  cases hdf with | coll hl0 ht => ?_
  rename_i l m
  have hmr : fr.mode ≠ .run := by
    intro e
    have := hf.mode
    rw [e] at this
    generalize hmm : F.mode = md at this
    cases this
    exact hm hmm
  obtain ⟨l', a1, a2, a3⟩ := hi.ob _ _ hg
  rw [hl0] at a1; simp only [Option.some.injEq] at a1; subst a1
  have b1 : w.heap[l.blk]? = some (.deferred (some [])) := a3
  have hlt := (Array.getElem?_eq_some_iff.1 b1).1
  have hend : (Instr.takeDeferred l.blk).run P w = .ok [] { w with heap := w.heap.setIfInBounds l.blk (.deferred none) } := by
    simp only [Instr.takeDeferred, Sem.run_bind, getObj, Sem.run, b1, Result.andThen_ok]
    simp [setObj, Sem.run, b1]
  obtain ⟨u1, u2⟩ := hi.upd (w' := { w with heap := w.heap.setIfInBounds l.blk (.deferred none) }) (ob' := .deferred none) (o' := .df false) hg hl hl0 (by simp)
    (by show (w.heap.setIfInBounds l.blk _)[l.blk]? = _; simp [hlt]) (by intro j hj; show (w.heap.setIfInBounds l.blk _)[j]? = _; rw [Array.getElem?_setIfInBounds, if_neg (Ne.symm hj)]) rfl rfl rfl rfl
  refine ⟨{ fr with defers := m }, _, g, ⟨hf.fn, hf.size, hf.get, hf.todo, ht, hf.mode, hf.kind, hf.round⟩, u1, u2, .one (step_lone_go ?_)⟩
  have hrw : ∀ u, fr.mode = u → stepG P true { frame := fr, callers := cs, status := .running, dying := none } w = Go.unwind P true fr cs none w := by
    intro u hu
    cases u with
    | run => exact absurd hu hmr
    | returning => simp [stepG, hu]
    | panicking _ => simp [stepG, hu]
  rw [hrw _ rfl]
  simp [Go.unwind, hfd, Sem.runT_eq, hend]

/- A round begins. -/
theorem Reach.beg {P : Program} {F : AFrame} {S : Sto} {G : AFrame → Sto → Prop} {k : List AItem} {id : Nat} {pend : Option Code} {fn n mask : Nat} {env : List (Nat × AV)} {params : List Tmp} {assign body : Code}
    (hm : F.mode = .run) (ht : F.todo = .beg :: k) (hr : F.round = some id) (hg : S.get id = some (.lp .ready pend fn n mask env params assign body)) (hl : S.lim ≤ id)
    (h : Reach P { F with todo := k } (S.set id (.lp .busy pend fn n mask env params assign body)) G) : Reach P F S G := by
  refine h.turn rfl rfl rfl rfl fun g w fr cs hf hi => ?_
  have hrun := hf.runs hm
  have htd := hf.todo
  rw [ht] at htd
  generalize hftd : fr.todo = td at htd
  cases htd with | cons q1 q2 => ?_
  cases q1
  rename_i m
  obtain ⟨l, a1, a2, a3⟩ := hi.ob _ _ hg
  have hro := hf.round
  rw [hr] at hro
  have hro' : fr.roundOf = some l.blk := by
    cases e : fr.roundOf with
    | none => rw [e] at hro; exact hro.elim
    | some b => rw [e] at hro; obtain ⟨l', c1, c2⟩ := hro; rw [a1] at c1; simp only [Option.some.injEq] at c1; subst c1; rw [c2]
  obtain ⟨lo, b1, b2, b3, b4, b5, b6, b7, b8, b9⟩ := a3
  have hlt := (Array.getElem?_eq_some_iff.1 b1).1
  have hend : (Instr.beginRound l.blk).run P w = .ok () { w with heap := w.heap.setIfInBounds l.blk (.loop { lo with state := .busy }) } := by
    simp only [Instr.beginRound, Instr.getLoop, Sem.run_bind, getObj, Sem.run, b1, Result.andThen_ok, Sem.run_pure]
    simp [setObj, Sem.run, b1, b2]
  obtain ⟨u1, u2⟩ := hi.upd (w' := { w with heap := w.heap.setIfInBounds l.blk (.loop { lo with state := .busy }) }) (ob' := .loop { lo with state := .busy }) (o' := .lp .busy pend fn n mask env params assign body) hg hl a1 (by simp)
    (by show (w.heap.setIfInBounds l.blk _)[l.blk]? = _; simp [hlt]) (by intro j hj; show (w.heap.setIfInBounds l.blk _)[j]? = _; rw [Array.getElem?_setIfInBounds, if_neg (Ne.symm hj)]) rfl rfl rfl
    ⟨_, rfl, rfl, b3, b4, b5, b6, b7, b8, b9⟩
  refine ⟨{ fr with todo := m }, _, g, hf.with q2, u1, u2, .one (step_lone_go ?_)⟩
  simp only [stepG, stepG.exec, hrun, hftd, stepG.apply, hro', Option.elim, Sem.runT_eq, if_true, Sem.run_bind, hend, Result.andThen_ok, Sem.run_pure]
  simp [Frame.finish, hftd, hrun, hro']

/- A round. -/
def setP (n mask : Nat) : List (Nat × AV) → List Tmp → List AV → List (Nat × AV)
  | env, t :: ts, v :: vs => match tb mask t, Nat.ble (t + 1) n with
    | true, true => setP n mask (up env t v) ts vs
    | _, _ => setP n mask env ts vs
  | env, _, _ => env
def roundF (id fn n mask : Nat) (env : List (Nat × AV)) (params : List Tmp) (assign body : Code) (args : List AV) : AFrame :=
  { fn := fn, n := n, mask := mask, loc := [], glob := setP n mask env params args, todo := [.code assign, .beg, .code body], defers := [], mode := .run, kind := .normal, cm := .run, round := some id }

theorem foldl_size : ∀ (l : List (Tmp × Value)) (tmps : Array Value), (l.foldl (fun tmps (x : Tmp × Value) => tmps.setIfInBounds x.1 x.2) tmps).size = tmps.size := by
  intro l
  induction l with
  | nil => intro tmps; rfl
  | cons a l ih => intro tmps; simp only [List.foldl_cons]; rw [ih]; simp

theorem setP_sound {g : Gh} {n mask : Nat} : ∀ {params : List Tmp} {args : List AV} {xs : List Value} {env : List (Nat × AV)} {tmps : Array Value}, tmps.size = n → args.length = params.length → VRs g args xs.toArray →
    (∀ t v, tb mask t = true → lk env t = some v → ∃ x, tmps[t]? = some x ∧ VR g v x) →
    ∀ t v, tb mask t = true → lk (setP n mask env params args) t = some v → ∃ x, ((params.zip xs).foldl (fun tmps (x : Tmp × Value) => tmps.setIfInBounds x.1 x.2) tmps)[t]? = some x ∧ VR g v x := by
  intro params
  induction params with
  | nil =>
    intro args xs env tmps _ _ _ henv t v hmt e
    have e' : lk env t = some v := by cases args <;> simpa [setP] using e
    simpa using henv t v hmt e'
  | cons p ps ih =>
    intro args xs env tmps hn hl hx henv t v hmt e
    cases args with
    | nil => simp at hl
    | cons a as =>
      cases xs with
      | nil => have := hx.1; simp at this
      | cons x xs =>
        have hax : VR g a x := hx.2 0 a x rfl rfl
        have hxs : VRs g as xs.toArray := ⟨by have := hx.1; simpa using this, fun k b y c d => hx.2 (k + 1) b y (by simpa using c) (by simpa using d)⟩
        simp only [List.zip_cons_cons, List.foldl_cons]
        have hl' : as.length = ps.length := by simpa using hl
        have hskip : (tb mask p = false ∨ ¬ p < n) → ∀ t v, tb mask t = true → lk env t = some v → ∃ y, (tmps.setIfInBounds p x)[t]? = some y ∧ VR g v y := by
          intro hno t v hmt e
          obtain ⟨y, y1, y2⟩ := henv t v hmt e
          refine ⟨y, ?_, y2⟩
          rw [Array.getElem?_setIfInBounds]
          by_cases hpt : p = t
          · subst hpt
            exfalso
            rcases hno with q | q
            · rw [q] at hmt; simp at hmt
            · exact q (hn ▸ (Array.getElem?_eq_some_iff.1 y1).1)
          · rw [if_neg hpt]; exact y1
        simp only [setP] at e
        cases hm : tb mask p with
        | false =>
          rw [hm] at e
          exact ih (by simpa using hn) hl' hxs (hskip (.inl hm)) t v hmt e
        | true =>
          rw [hm] at e
          cases hb : Nat.ble (p + 1) n with
          | false =>
            rw [hb] at e
            exact ih (by simpa using hn) hl' hxs (hskip (.inr fun q => by rw [Nat.ble_eq_true_of_le q] at hb; simp at hb)) t v hmt e
          | true =>
            rw [hb] at e
            have hp := Nat.le_of_ble_eq_true hb
            refine ih (env := up env p a) (by simpa using hn) hl' hxs (fun t v hmt e => ?_) t v hmt e
            by_cases hpt : t = p
            · subst hpt
              rw [lk_up_same] at e; simp only [Option.some.injEq] at e; subst e
              exact ⟨x, by simp [show t < tmps.size by omega], hax⟩
            · rw [lk_up_other _ _ hpt] at e
              obtain ⟨y, y1, y2⟩ := henv t v hmt e
              exact ⟨y, by rw [Array.getElem?_setIfInBounds, if_neg (Ne.symm hpt)]; exact y1, y2⟩

def outOf : List AItem → Option Code
  | .code .ret :: _ => some .ret
  | .code (.exit b) :: k => match aexit b k with
    | none => some (.exit b)
    | some _ => none
  | _ => none
def RFin (id : Nat) (F' : AFrame) (S' : Sto) (Q : Res → Sto → Prop) : Prop :=
  F'.defers = [] ∧ ((F'.mode = .run ∧ ∃ st pend fn n mask env params assign body, S'.get id = some (.lp st pend fn n mask env params assign body) ∧ S'.lim ≤ id ∧
      ((F'.todo = [] ∧ Q (.ret (.sc (.bool true))) (S'.set id (.lp .ready none fn n mask env params assign body))) ∨
       ∃ c, outOf F'.todo = some c ∧ Q (.ret (.sc (.bool false))) (S'.set id (.lp .done (some c) fn n mask env params assign body)))) ∨
    ∃ l, F'.mode = .panicking l ∧ Q (.pan l) S')

theorem Reach.op_yld {P : Program} {F : AFrame} {S : Sto} {G : AFrame → Sto → Prop} {all : Array Oper} {i : Nat} {rest : List Nat} {k : List AItem} {o : Oper} {id : Nat} {args : List AV} {st : LoopState} {pend : Option Code} {fn n mask : Nat} {env : List (Nat × AV)} {params : List Tmp} {assign body : Code} {fnc : Func}
    (hm : F.mode = .run) (ht : F.todo = .ops all (i :: rest) :: k) (ho : all[i]? = some o) (hg : agd F all o = some true) (hsp : specialOp o.op = false)
    (ha : aop P F.eval S o.op = some (.yld id args)) (hlp : S.get id = some (.lp st pend fn n mask env params assign body)) (hlen : args.length = params.length) (hfn : P.funcs[fn]? = some fnc)
    (h : Reach P (roundF id fn n mask env params assign body args) S fun F' S' => RFin id F' S' fun r S'' => Reach P (F.back o all rest k r) S'' G) : Reach P F S G := by
  intro g w fr cs0 cs hf hcs hi
  obtain ⟨m, e1, e2⟩ := hf.split ht
  obtain ⟨l, xs, r0, r1, r2⟩ := aop_sound hi (OpR.of hf) ha
  have hrun := hf.runs hm
  obtain ⟨l', a1, a2, a3⟩ := hi.ob _ _ hlp
  rw [r0] at a1; simp only [Option.some.injEq] at a1; subst a1
  obtain ⟨lo, b1, b2, b3, b4, b5, b6, b7, b8, b9⟩ := a3
  have hsz : xs.size = lo.params.size := by rw [b7, ← r2.1, hlen]; simp
  have hy : (Instr.yield l.blk xs).run P w = .ok (.round l.blk lo.fn ((lo.params.zip xs).foldl (fun tmps (x : Tmp × Value) => tmps.setIfInBounds x.1 x.2) lo.tmps) lo.assign lo.body) w := by
    simp [Instr.yield, Instr.getLoop, Sem.run_bind, getObj, Sem.run, b1, hsz]
  rw [hy] at r1
  obtain ⟨frR, hfrR⟩ : ∃ x : Frame, x = Frame.round l.blk lo.fn ((lo.params.zip xs).foldl (fun tmps (x : Tmp × Value) => tmps.setIfInBounds x.1 x.2) lo.tmps) lo.assign lo.body .normal := ⟨_, rfl⟩
  have hs := stepG_oper (P := P) (cs := cs) (w := w) hrun e1 ho (agd_sound hf hg) (.inr hsp)
  have hst : step P (lone fr cs w) = .next (lone frR (fr :: cs) w) := by
    refine step_lone_go ?_
    rw [hs, hfrR]
    simp [stepG.apply, r1]
  have hfold : (lo.params.zip xs).foldl (fun tmps (x : Tmp × Value) => tmps.setIfInBounds x.1 x.2) lo.tmps = (params.zip xs.toList).foldl (fun tmps (x : Tmp × Value) => tmps.setIfInBounds x.1 x.2) lo.tmps := by
    rw [← Array.foldl_toList, Array.toList_zip, b7]
  have hFR : FrR P g (roundF id fn n mask env params assign body args) frR := by
    rw [hfrR, hfold]
    refine ⟨b4, ?_, ?_, .cons (by rw [b8]; exact .code) (.cons .beg (.cons (by rw [b9]; exact .code) .nil)), .nil, .run, rfl, ⟨l, r0, rfl⟩⟩
    · show ((params.zip xs.toList).foldl _ lo.tmps).size = n
      rw [foldl_size]; exact b5
    · intro t v e
      simp only [AFrame.get, roundF] at e
      split at e
      · rename_i hmt
        exact setP_sound b5 hlen (by simpa using r2) (fun t v _ e => b6 t v e) t v hmt e
      · simp [lk_nil] at e
  obtain ⟨F', S', g', w', fr', cs', ⟨hd, hq⟩, p1, p2, p3, p4, p5, p6, p7, p8⟩ := h g w frR (fr :: cs) (fr :: cs) hFR (by simp [CsR, roundF]) hi
  have hk : F'.kind = .normal := p3
  have hcs' : cs' = fr :: cs := by unfold CsR at p2; rw [hk] at p2; exact p2
  subst hcs'
  have hfn' : fr'.fn = fn := p1.fn.trans p4
  have hdf : fr'.defers = [] := by have := p1.defers; rw [hd] at this; exact this.nil_of
  have hkd : fr'.kind = .normal := p1.kind.trans hk
  have hround : fr'.roundOf = some l.blk := by
    have hro := p1.round
    rw [p5] at hro
    have hl' := p7.gle.ph _ _ r0
    cases e : fr'.roundOf with
    | none => rw [e] at hro; exact hro.elim
    | some b => rw [e] at hro; obtain ⟨l2, c1, c2⟩ := hro; rw [hl'] at c1; simp only [Option.some.injEq] at c1; subst c1; rw [c2]
  have fin : ∀ (r : Res) (S'' : Sto) (w'' : World) (fr2 : Frame), Reach P (F.back o all rest k r) S'' G → Inv S'' g' w'' → Ext S' g' w' S'' g' w'' → step P (lone fr' (fr :: cs) w') = .next (lone fr2 cs w'') → FrR P g' (F.back o all rest k r) fr2 →
      ∃ F' S'' g'' w'' fr' cs', G F' S'' ∧ FrR P g'' F' fr' ∧ CsR g'' F' cs0 cs' ∧ F'.kind = F.kind ∧ F'.fn = F.fn ∧ F'.round = F.round ∧ Inv S'' g'' w'' ∧ Ext S g w S'' g'' w'' ∧ Steps P (lone fr cs w) (lone fr' cs' w'') := by
    intro r S'' w'' fr2 hR hI hE hst2 hfr2
    have hkeep : (F.back o all rest k r).kind = F.kind ∧ (F.back o all rest k r).fn = F.fn ∧ (F.back o all rest k r).round = F.round ∧ (F.back o all rest k r).cm = F.cm := by
      cases r with
      | ret v => exact F.after_keeps o v all rest k
      | pan l => exact ⟨rfl, rfl, rfl, rfl⟩
    have hxx := p7.trans hE
    obtain ⟨F2, S2, g3, w3, fr3, cs2, q', z1, z2, z3, z4, z5, z6, z7, z8⟩ := hR g' w'' fr2 cs0 cs hfr2 ((hcs.mono hxx.gle).congr hkeep.1 hkeep.2.2.2) hI
    exact ⟨F2, S2, g3, w3, fr3, cs2, q', z1, z2, z3.trans hkeep.1, z4.trans hkeep.2.1, z5.trans hkeep.2.2.1, z6, hxx.trans z7, Steps.head hst (Steps.trans p8 (Steps.head hst2 z8))⟩
  have hfx := hf.mono p7.gle
  have e2x := e2.mono p7.gle
  rcases hq with ⟨hmr, st2, pend2, fn2, n2, mask2, env2, params2, assign2, body2, hlp2, hlim2, hq⟩ | ⟨lch, hmp, hq⟩
  · have hrun' := p1.runs hmr
    obtain ⟨l2, c1, c2, c3⟩ := p6.ob _ _ hlp2
    rw [p7.gle.ph _ _ r0] at c1; simp only [Option.some.injEq] at c1; subst c1
    obtain ⟨lo2, d1, d2, d3, d4, d5, d6, d7, d8, d9⟩ := c3
    have hlt := (Array.getElem?_eq_some_iff.1 d1).1
    have hend : ∀ jump, (Instr.endRound l.blk jump).run P w' = .ok (.bool jump.isNone) { w' with heap := w'.heap.setIfInBounds l.blk (.loop { lo2 with state := if jump.isNone then .ready else .done, pending := jump }) } := by
      intro jump
      simp only [Instr.endRound, Instr.getLoop, Sem.run_bind, getObj, Sem.run, d1, Result.andThen_ok, Sem.run_pure]
      simp [setObj, Sem.run, d1]
    have hupd : ∀ (st3 : LoopState) (jump : Option Code), Inv (S'.set id (.lp st3 jump fn2 n2 mask2 env2 params2 assign2 body2)) g' { w' with heap := w'.heap.setIfInBounds l.blk (.loop { lo2 with state := st3, pending := jump }) } ∧
        Ext S' g' w' (S'.set id (.lp st3 jump fn2 n2 mask2 env2 params2 assign2 body2)) g' { w' with heap := w'.heap.setIfInBounds l.blk (.loop { lo2 with state := st3, pending := jump }) } := by
      intro st3 jump
      exact p6.upd (ob' := .loop { lo2 with state := st3, pending := jump }) hlp2 hlim2 (p7.gle.ph _ _ r0) (by simp)
        (by show (w'.heap.setIfInBounds l.blk _)[l.blk]? = _; simp [hlt]) (by intro j hj; show (w'.heap.setIfInBounds l.blk _)[j]? = _; rw [Array.getElem?_setIfInBounds, if_neg (Ne.symm hj)]) rfl rfl rfl
        ⟨_, rfl, rfl, rfl, d4, d5, d6, d7, d8, d9⟩
    have hback : ∀ b : Bool, FrR P g' (F.back o all rest k (.ret (.sc (.bool b)))) (fr.finish (.bool b)) := fun b => hfx.after e1 e2x ho (.sc rfl)
    have htd := p1.todo
    rcases hq with ⟨htn, hq⟩ | ⟨c, hout, hq⟩
    · rw [htn] at htd
      generalize hftd : fr'.todo = td at htd
      cases htd
      obtain ⟨u1, u2⟩ := hupd .ready none
      refine fin _ _ _ (fr.finish (.bool true)) hq u1 u2 (step_lone_go ?_) (hback true)
      simp [stepG, stepG.exec, hrun', hftd, hround, Sem.runT_eq, hend, doReturn, hkd]
    · obtain ⟨u1, u2⟩ := hupd .done (some c)
      have hgo : step P (lone fr' (fr :: cs) w') = .next (lone (fr.finish (.bool false)) cs { w' with heap := w'.heap.setIfInBounds l.blk (.loop { lo2 with state := .done, pending := some c }) }) := by
        refine step_lone_go ?_
        generalize htodo : F'.todo = T' at htd hout
        unfold outOf at hout
        split at hout
        · simp only [Option.some.injEq] at hout; subst hout
          generalize hftd : fr'.todo = td at htd
          cases htd with | cons y1 y2 => ?_
          cases y1
          simp [stepG, stepG.exec, hrun', hftd, hround, Sem.runT_eq, hend, doReturn, hkd]
        · split at hout <;> simp only [Option.some.injEq, reduceCtorEq] at hout
          rename_i xid bb hexq hex
          subst hout
          generalize hftd : fr'.todo = td at htd
          cases htd with | cons y1 y2 => ?_
          cases y1
          have hex' := aexit_sound (id := xid) y2
          rw [hex] at hex'
          simp only at hex'
          simp [stepG, stepG.exec, hrun', hftd, hex', hround, Sem.runT_eq, hend, doReturn, hkd]
        · simp at hout
      exact fin _ _ _ (fr.finish (.bool false)) hq u1 u2 hgo (hback false)
  · have hmode := p1.mode
    rw [hmp] at hmode
    obtain ⟨mm, hm', hch⟩ : ∃ m, fr'.mode = .panicking m ∧ ChainR g' lch m := by generalize fr'.mode = md at hmode ⊢; cases hmode with | panicking h => exact ⟨_, rfl, h⟩
    have hgoing : fr'.going P w' (.panicked mm) := ⟨hm', hdf, fnc, by rw [hfn']; exact hfn⟩
    refine fin (.pan lch) S' w' (fr.raise mm) hq p6 (Ext.refl _ _ _) (step_leave_panicked hgoing) ?_
    have : fr.raise mm = { fr with mode := .panicking mm } := by simp [Frame.raise, hrun]
    rw [this]
    exact ⟨hfx.fn, hfx.size, hfx.get, hfx.todo, hfx.defers, .panicking hch, hfx.kind, hfx.round⟩

end
end Go.Eng
