/- An operation looks at its operands alone; no conditions. -/
import Derived.Test.YtdabbamabgfeoaaGreatEngR
import Derived.Orders
namespace Go.Eng
noncomputable section

theorem evalL_congr {ρ ρ' : Operand → Option AV} : ∀ {l : List Operand}, (∀ x, x ∈ l → ρ x = ρ' x) → evalL ρ l = evalL ρ' l := by
  intro l
  induction l with
  | nil => intro _; rfl
  | cons x r ih => intro h; simp only [evalL, h x (by simp), ih fun y hy => h y (by simp [hy])]
theorem evalP_congr {ρ ρ' : Operand → Option AV} : ∀ {l : List (Nat × Operand)}, (∀ x, x ∈ l.map (·.2) → ρ x = ρ' x) → evalP ρ l = evalP ρ' l := by
  intro l
  induction l with
  | nil => intro _; rfl
  | cons p r ih => intro h; obtain ⟨i, x⟩ := p; simp only [evalP, h x (by simp), ih fun y hy => h y (by simp only [List.map_cons, List.mem_cons]; exact .inr hy)]

theorem aop_congr {P : Program} {ρ ρ' : Operand → Option AV} {S : Sto} {o : Op} (h : ∀ x, x ∈ o.operands.toList → ρ x = ρ' x) : aop P ρ S o = aop P ρ' S o := by
  cases o with
  | build t ps =>
    have := evalP_congr (l := ps.toList) fun x hx => h x (by simpa [Op.operands] using hx)
    simp only [aop, this]
  | buildSlice t n ps =>
    have := evalP_congr (l := ps.toList) fun x hx => h x (by simpa [Op.operands] using hx)
    simp only [aop, this]
  | makeFunc f a b =>
    have h1 := evalL_congr (l := a.toList) fun x hx => h x (by simp only [Op.operands, Array.toList_append, List.mem_append]; exact .inl hx)
    have h2 := evalL_congr (l := b.toList) fun x hx => h x (by simp only [Op.operands, Array.toList_append, List.mem_append]; exact .inr hx)
    simp only [aop, h1, h2]
  | makeMap t r => cases r <;> rfl
  | slice t x lo hi m =>
    cases m with
    | some m =>
      have h0 := h x (by simp [Op.operands])
      have h3 := h m (by simp [Op.operands])
      cases lo with
      | some a => rfl
      | none =>
        cases hi with
        | none => rfl
        | some b => have h2 := h b (by simp [Op.operands]); simp only [aop, h0, h2, h3]
    | none =>
      have h0 := h x (by simp [Op.operands])
      cases lo with
      | none =>
        cases hi with
        | none => simp only [aop, h0]
        | some b => have h2 := h b (by simp [Op.operands]); simp only [aop, h0, h2]
      | some a =>
        have h1 := h a (by simp [Op.operands])
        cases hi with
        | none => simp only [aop, h0, h1]
        | some b => have h2 := h b (by simp [Op.operands]); simp only [aop, h0, h1, h2]
  | call c =>
    have h1 := evalL_congr (l := c.args.toList) fun x hx => h x (by simp only [Op.operands, Call.operands, Array.toList_append, List.mem_append]; exact .inr hx)
    simp only [aop, callAV, h1]
    cases hc : c.callee with
    | builtin b => rfl
    | invoke r n => have h2 := h r (by simp [Op.operands, Call.operands, hc]); simp only [h2]
    | value f => have h2 := h f (by simp [Op.operands, Call.operands, hc]); simp only [h2]
  | defer c =>
    have h1 := evalL_congr (l := c.args.toList) fun x hx => h x (by simp only [Op.operands, Call.operands, Array.toList_append, List.mem_append]; exact .inr hx)
    simp only [aop, h1]
    cases hc : c.callee with
    | builtin b => rfl
    | invoke r n => rfl
    | value f => have h2 := h f (by simp [Op.operands, Call.operands, hc]); simp only [h2]
  | alloc t => rfl
  | pick c a b => simp only [aop, h c (by simp [Op.operands]), h a (by simp [Op.operands]), h b (by simp [Op.operands])]
  | mapUpdate t m k x => simp only [aop, h m (by simp [Op.operands]), h k (by simp [Op.operands]), h x (by simp [Op.operands])]
  | insert t m k x => simp only [aop, h m (by simp [Op.operands]), h k (by simp [Op.operands]), h x (by simp [Op.operands])]
  | store t a x => simp only [aop, h a (by simp [Op.operands]), h x (by simp [Op.operands])]
  | binOp o t a x u => simp only [aop, h a (by simp [Op.operands]), h x (by simp [Op.operands])]
  | makeSlice t a x => simp only [aop, h a (by simp [Op.operands]), h x (by simp [Op.operands])]
  | indexAddr t a x => simp only [aop, h a (by simp [Op.operands]), h x (by simp [Op.operands])]
  | index t a x => simp only [aop, h a (by simp [Op.operands]), h x (by simp [Op.operands])]
  | lookup t a x c => simp only [aop, h a (by simp [Op.operands]), h x (by simp [Op.operands])]
  | move x => simp only [aop, h x (by simp [Op.operands])]
  | assign x => simp only [aop, h x (by simp [Op.operands])]
  | box t x => simp only [aop, h x (by simp [Op.operands])]
  | load t x => simp only [aop, h x (by simp [Op.operands])]
  | nilCheck x => simp only [aop, h x (by simp [Op.operands])]
  | unOp o t x => simp only [aop, h x (by simp [Op.operands])]
  | convert s d x => simp only [aop, h x (by simp [Op.operands])]
  | makeInterface t x => simp only [aop, h x (by simp [Op.operands])]
  | fieldAddr t x f => simp only [aop, h x (by simp [Op.operands])]
  | field t x f => simp only [aop, h x (by simp [Op.operands])]
  | range t x => simp only [aop, h x (by simp [Op.operands])]
  | next x s => simp only [aop, h x (by simp [Op.operands])]
  | entry x => simp only [aop, h x (by simp [Op.operands])]
  | typeAssert x a b c => simp only [aop, h x (by simp [Op.operands])]
  | extract x i => simp only [aop, h x (by simp [Op.operands])]
  | panic x => simp only [aop, h x (by simp [Op.operands])]
  | _ => rfl

/- The slots that an operation looks at. -/
def Slots (g : Gh) (all : Array Oper) (o : Oper) (get : Nat → Option AV) (fr : Frame) : Prop := ∀ t, t ∈ o.looksAt all → ∀ u, get t = some u → ∃ x, fr.tmps[t]? = some x ∧ VR g u x
def looked (all : Array Oper) (o : Oper) (F : AFrame) : Operand → Option AV
  | .tmp t => if t ∈ o.looksAt all then F.get t else none
  | x => F.eval x
theorem looked_R {g : Gh} {all : Array Oper} {o : Oper} {F : AFrame} {fr : Frame} (h : Slots g all o F.get fr) : OpR g (looked all o F) fr.eval := by
  intro x v e
  cases x with
  | tmp t =>
    simp only [looked] at e
    split at e
    · rename_i hm
      obtain ⟨y, hy, hv⟩ := h t hm v e
      have : fr.eval (.tmp t) = y := by simp [Frame.eval, Array.getD_eq_getD_getElem?, hy]
      rw [this]; exact hv
    · simp at e
  | const c => simp only [looked, AFrame.eval, Option.some.injEq] at e; subst e; exact ofV_sound g c
  | global _ => simp [looked, AFrame.eval] at e
  | func f => simp only [looked, AFrame.eval, Option.some.injEq] at e; subst e; exact .fn rfl rfl (fun k a x e => by simp at e) (fun k a x e => by simp at e)
theorem looked_aop {P : Program} {all : Array Oper} {o : Oper} {F : AFrame} {E : Sto} : aop P (looked all o F) E o.op = aop P F.eval E o.op := by
  refine aop_congr fun x hx => ?_
  cases x with
  | tmp t =>
    have : t ∈ o.looksAt all := by
      unfold Oper.looksAt
      rw [List.mem_append]
      exact .inl (List.mem_filterMap.2 ⟨.tmp t, hx, rfl⟩)
    simp only [looked, this, if_true, AFrame.eval]
  | _ => rfl
theorem looked_wanted {g : Gh} {all : Array Oper} {o : Oper} {F : AFrame} {fr : Frame} (h : Slots g all o F.get fr) {b : Bool} (ha : agd F all o = some b) : Region.wanted o (yielded all fr.tmps) = b := by
  unfold agd at ha
  split at ha
  · rename_i e; simp only [Option.some.injEq] at ha; subst ha; simp [Region.wanted, e]
  · rename_i j want e
    split at ha <;> try (simp at ha; done)
    rename_i oj hj
    split at ha <;> try (simp at ha; done)
    rename_i d hd
    have hmem : d ∈ o.looksAt all := by
      unfold Oper.looksAt
      rw [List.mem_append]
      exact .inr (by simp [e, hj, hd])
    split at ha <;> simp only [Option.some.injEq, reduceCtorEq] at ha
    · rename_i c hc
      subst ha
      obtain ⟨x, hx, hv⟩ := h d hmem _ hc
      cases hv
      simp [Region.wanted, e, yielded, hj, hd, hx]
    · rename_i hc
      subst ha
      obtain ⟨x, hx, hv⟩ := h d hmem _ hc
      cases hv
      simp [Region.wanted, e, yielded, hj, hd, hx]

theorem OpC.unwanted {P : Program} {all : Array Oper} {o : Oper} {F : AFrame} {E : Sto} (hg : agd F all o = some false) : OpC P all o F.get E (.tup []) E := by
  intro g w fr cs i rest m hm ht ho hs hi
  exact ⟨w, g, undef, .one (step_unwanted hm ht ho (looked_wanted hs hg)), .tup rfl (fun k a x e => by simp at e), hi, Ext.refl _ _ _⟩
theorem OpC.val {P : Program} {all : Array Oper} {o : Oper} {F : AFrame} {E E' : Sto} {v : AV} (hg : agd F all o = some true) (hsp : specialOp o.op = false) (ha : aop P F.eval E o.op = some (.val v E')) : OpC P all o F.get E v E' := by
  intro g w fr cs i rest m hm ht ho hs hi
  rw [← looked_aop (all := all)] at ha
  obtain ⟨x, w', g', r1, r2, r3, r4⟩ := aop_sound hi (looked_R hs) ha
  exact ⟨w', g', x, .one (step_val (stepG_oper hm ht ho (looked_wanted hs hg) (.inr hsp)) r1), r2, r3, r4⟩
theorem OpC.skip {P : Program} {all : Array Oper} {o : Oper} {F : AFrame} {E E' : Sto} (hg : agd F all o = some true) (hsp : specialOp o.op = false) (ha : aop P F.eval E o.op = some (.skip E')) : OpC P all o F.get E (.tup []) E' := by
  intro g w fr cs i rest m hm ht ho hs hi
  rw [← looked_aop (all := all)] at ha
  obtain ⟨w', g', r1, r3, r4⟩ := aop_sound hi (looked_R hs) ha
  exact ⟨w', g', undef, .one (step_skipop (stepG_oper hm ht ho (looked_wanted hs hg) (.inr hsp)) r1), .tup rfl (fun k a x e => by simp at e), r3, r4⟩
theorem OpC.call {P : Program} {all : Array Oper} {o : Oper} {F : AFrame} {E E' : Sto} {v : AV} {f : FuncId} {args : List AV} (hg : agd F all o = some true) (hsp : specialOp o.op = false) (ha : aop P F.eval E o.op = some (.call f args))
    (hc : FnC P f args E fun r S' => r = .ret v ∧ S' = E') : OpC P all o F.get E v E' := by
  intro g w fr cs i rest m hm ht ho hs hi
  rw [← looked_aop (all := all)] at ha
  obtain ⟨xs, r1, r2⟩ := aop_sound hi (looked_R hs) ha
  have henter := step_enter (P := P) (cs := cs) (stepG_oper hm ht ho (looked_wanted hs hg) (.inr hsp)) ht r1
  obtain ⟨e, w', fr1, ⟨r, S', g', ⟨hq, hq'⟩, hres, hi', hx⟩, hsteps, _, hleave⟩ := hc g w xs r2 hi (fr :: cs)
  subst hq; subst hq'
  cases e with
  | returned x => exact ⟨w', g', x, Steps.head henter (Steps.trans hsteps (.one (step_leave_returned hleave))), hres, hi', hx⟩
  | panicked c => exact hres.elim
  | outgrown => exact hres.elim

theorem OpC.mono {P : Program} {all : Array Oper} {o : Oper} {get get' : Nat → Option AV} {E E' : Sto} {v : AV} (hg : ∀ t u, get t = some u → get' t = some u) (h : OpC P all o get E v E') : OpC P all o get' E v E' :=
  fun g w fr cs i rest m hm ht ho hs hi => h g w fr cs i rest m hm ht ho (fun t hl u e => hs t hl u (hg t u e)) hi

theorem OpC.yld {P : Program} {all : Array Oper} {o : Oper} {F : AFrame} {E E' : Sto} {v : AV} {id : Nat} {args : List AV} {st : LoopState} {pend : Option Code} {fn n mask : Nat} {env : List (Nat × AV)} {params : List Tmp} {assign body : Code}
    (hg : agd F all o = some true) (hsp : specialOp o.op = false) (ha : aop P F.eval E o.op = some (.yld id args)) (hlp : E.get id = some (.lp st pend fn n mask env params assign body)) (hlen : args.length = params.length)
    (h : Reach P (roundF id fn n mask env params assign body args) E fun F' S' => RFin id F' S' fun r S'' => r = .ret v ∧ S'' = E') : OpC P all o F.get E v E' := by
  intro g w fr cs i rest m hrun e1 ho hsl hi
  rw [← looked_aop (all := all)] at ha
  obtain ⟨l, xs, r0, r1, r2⟩ := aop_sound hi (looked_R hsl) ha
  obtain ⟨l', a1, a2, a3⟩ := hi.ob _ _ hlp
  rw [r0] at a1; simp only [Option.some.injEq] at a1; subst a1
  obtain ⟨lo, b1, b2, b3, b4, b5, b6, b7, b8, b9⟩ := a3
  have hsz : xs.size = lo.params.size := by rw [b7, ← r2.1, hlen]; simp
  have hy : (Instr.yield l.blk xs).run P w = .ok (.round l.blk lo.fn ((lo.params.zip xs).foldl (fun tmps (x : Tmp × Value) => tmps.setIfInBounds x.1 x.2) lo.tmps) lo.assign lo.body) w := by
    simp [Instr.yield, Instr.getLoop, Sem.run_bind, getObj, Sem.run, b1, hsz]
  rw [hy] at r1
  obtain ⟨frR, hfrR⟩ : ∃ x : Frame, x = Frame.round l.blk lo.fn ((lo.params.zip xs).foldl (fun tmps (x : Tmp × Value) => tmps.setIfInBounds x.1 x.2) lo.tmps) lo.assign lo.body .normal := ⟨_, rfl⟩
  have hs := stepG_oper (P := P) (cs := cs) (w := w) hrun e1 ho (looked_wanted hsl hg) (.inr hsp)
  have hst : step P (lone fr cs w) = .next (lone frR (fr :: cs) w) := by
    refine step_lone_go ?_
    rw [hs, hfrR]
    simp [stepG.apply, r1]
  have hfold : (lo.params.zip xs).foldl (fun tmps (x : Tmp × Value) => tmps.setIfInBounds x.1 x.2) lo.tmps = (params.zip xs.toList).foldl (fun tmps (x : Tmp × Value) => tmps.setIfInBounds x.1 x.2) lo.tmps := by
    rw [← Array.foldl_toList, Array.toList_zip, b7]
  have hFR : FrR P g (roundF id fn n mask env params assign body args) frR := by
    rw [hfrR, hfold]
    refine ⟨b4, ?_, ?_, .cons (by rw [b8]; exact .code) (.cons .beg (.cons (by rw [b9]; exact .code) .nil)), .nil, .run, rfl, ⟨l, r0, rfl⟩⟩
    · show ((params.zip xs.toList).foldl _ lo.tmps).size = n
      rw [foldl_size]; exact b5
    · intro t v e
      simp only [AFrame.get, roundF] at e
      split at e
      · rename_i hmt
        exact setP_sound b5 hlen (by simpa using r2) (fun t v _ e => b6 t v e) t v hmt e
      · simp [lk_nil] at e
  obtain ⟨F', S', g', w', fr', cs', ⟨hd, hq⟩, p1, p2, p3, p4, p5, p6, p7, p8⟩ := h g w frR (fr :: cs) (fr :: cs) hFR (by simp [CsR, roundF]) hi
  have hk : F'.kind = .normal := p3
  have hcs' : cs' = fr :: cs := by unfold CsR at p2; rw [hk] at p2; exact p2
  subst hcs'
  have hfn' : fr'.fn = fn := p1.fn.trans p4
  have hdf : fr'.defers = [] := by have := p1.defers; rw [hd] at this; exact this.nil_of
  have hkd : fr'.kind = .normal := p1.kind.trans hk
  have hround : fr'.roundOf = some l.blk := by
    have hro := p1.round
    rw [p5] at hro
    have hl' := p7.gle.ph _ _ r0
    cases e : fr'.roundOf with
    | none => rw [e] at hro; exact hro.elim
    | some b => rw [e] at hro; obtain ⟨l2, c1, c2⟩ := hro; rw [hl'] at c1; simp only [Option.some.injEq] at c1; subst c1; rw [c2]
  rcases hq with ⟨hmr, st2, pend2, fn2, n2, mask2, env2, params2, assign2, body2, hlp2, hlim2, hq⟩ | ⟨lch, hmp, hq⟩
  · have hrun' := p1.runs hmr
    obtain ⟨l2, c1, c2, c3⟩ := p6.ob _ _ hlp2
    rw [p7.gle.ph _ _ r0] at c1; simp only [Option.some.injEq] at c1; subst c1
    obtain ⟨lo2, d1, d2, d3, d4, d5, d6, d7, d8, d9⟩ := c3
    have hlt := (Array.getElem?_eq_some_iff.1 d1).1
    have hend : ∀ jump, (Instr.endRound l.blk jump).run P w' = .ok (.bool jump.isNone) { w' with heap := w'.heap.setIfInBounds l.blk (.loop { lo2 with state := if jump.isNone then .ready else .done, pending := jump }) } := by
      intro jump
      simp only [Instr.endRound, Instr.getLoop, Sem.run_bind, getObj, Sem.run, d1, Result.andThen_ok, Sem.run_pure]
      simp [setObj, Sem.run, d1]
    have hupd : ∀ (st3 : LoopState) (jump : Option Code), Inv (S'.set id (.lp st3 jump fn2 n2 mask2 env2 params2 assign2 body2)) g' { w' with heap := w'.heap.setIfInBounds l.blk (.loop { lo2 with state := st3, pending := jump }) } ∧
        Ext S' g' w' (S'.set id (.lp st3 jump fn2 n2 mask2 env2 params2 assign2 body2)) g' { w' with heap := w'.heap.setIfInBounds l.blk (.loop { lo2 with state := st3, pending := jump }) } := by
      intro st3 jump
      exact p6.upd (ob' := .loop { lo2 with state := st3, pending := jump }) hlp2 hlim2 (p7.gle.ph _ _ r0) (by simp)
        (by show (w'.heap.setIfInBounds l.blk _)[l.blk]? = _; simp [hlt]) (by intro j hj; show (w'.heap.setIfInBounds l.blk _)[j]? = _; rw [Array.getElem?_setIfInBounds, if_neg (Ne.symm hj)]) rfl rfl rfl
        ⟨_, rfl, rfl, rfl, d4, d5, d6, d7, d8, d9⟩
    have htd := p1.todo
    rcases hq with ⟨htn, hq⟩ | ⟨c, hout, hq⟩
    · rw [htn] at htd
      generalize hftd : fr'.todo = td at htd
      cases htd
      obtain ⟨u1, u2⟩ := hupd .ready none
      obtain ⟨hq1, hq2⟩ := hq
      simp only [Res.ret.injEq] at hq1
      subst hq1; subst hq2
      refine ⟨_, g', .bool true, Steps.head hst (Steps.trans p8 (.one (step_lone_go ?_))), .sc rfl, u1, p7.trans u2⟩
      simp [stepG, stepG.exec, hrun', hftd, hround, Sem.runT_eq, hend, doReturn, hkd]
    · obtain ⟨u1, u2⟩ := hupd .done (some c)
      have hgo : step P (lone fr' (fr :: cs) w') = .next (lone (fr.finish (.bool false)) cs { w' with heap := w'.heap.setIfInBounds l.blk (.loop { lo2 with state := .done, pending := some c }) }) := by
        refine step_lone_go ?_
        generalize htodo : F'.todo = T' at htd hout
        unfold outOf at hout
        split at hout
        · simp only [Option.some.injEq] at hout; subst hout
          generalize hftd : fr'.todo = td at htd
          cases htd with | cons y1 y2 => ?_
          cases y1
          simp [stepG, stepG.exec, hrun', hftd, hround, Sem.runT_eq, hend, doReturn, hkd]
        · split at hout <;> simp only [Option.some.injEq, reduceCtorEq] at hout
          rename_i xid bb hexq hex
          subst hout
          generalize hftd : fr'.todo = td at htd
          cases htd with | cons y1 y2 => ?_
          cases y1
          have hex' := aexit_sound (id := xid) y2
          rw [hex] at hex'
          simp only at hex'
          simp [stepG, stepG.exec, hrun', hftd, hex', hround, Sem.runT_eq, hend, doReturn, hkd]
        · simp at hout
      obtain ⟨hq1, hq2⟩ := hq
      simp only [Res.ret.injEq] at hq1
      subst hq1; subst hq2
      exact ⟨_, g', .bool false, Steps.head hst (Steps.trans p8 (.one hgo)), .sc rfl, u1, p7.trans u2⟩
  · simp at hq

end
end Go.Eng
