/- Every operation on abstract values is what the model does; no conditions. -/
import Derived.Test.YtdabbamabgfeoaaGreatEngH
namespace Go.Eng
noncomputable section

theorem aop_sound {P : Program} {ρ : Operand → Option AV} {ρ' : Operand → Value} {S : Sto} {g : Gh} {w : World} {o : Oper} {res : ARes} (hi : Inv S g w) (hr : OpR g ρ ρ') (h : aop P ρ S o.op = some res) : AopS P ρ' S g w o res := by
  obtain ⟨dst, op, ty, pos, after, guard⟩ := o
  simp only at h
  cases op with
  | move x => exact AopS.v hi h fun v e => ⟨ρ' x, by simp [execOp], hr x v e⟩
  | assign x => exact AopS.v hi h fun v e => ⟨ρ' x, by simp [execOp], hr x v e⟩
  | pick c a b =>
    simp only [aop] at h
    split at h <;> try (simp at h; done)
    · rename_i hc
      have hc' := hr c _ hc
      generalize hx : ρ' c = xc at hc'
      cases hc' with | sc _ => exact AopS.v hi h fun v e => ⟨ρ' a, by simp [execOp, hx, asBool], hr a v e⟩
    · rename_i hc
      have hc' := hr c _ hc
      generalize hx : ρ' c = xc at hc'
      cases hc' with | sc _ => exact AopS.v hi h fun v e => ⟨ρ' b, by simp [execOp, hx, asBool], hr b v e⟩
  | alloc t =>
    simp only [aop] at h
    split at h <;> try (simp at h; done)
    rename_i z hz
    obtain ⟨zc, hzr, hzv⟩ := zeroAV_sound (P := P) (w := w) (g := g) hz
    refine AopS.p h fun v S' e => ?_
    obtain ⟨a, w', g', r1, r2, r3, r4⟩ := boxAV_sound (P := P) (t := t) hi e hzv
    exact ⟨_, w', g', by simp [execOp, Instr.alloc, hzr, r1], r2, r3, r4⟩
  | box t x =>
    simp only [aop] at h
    split at h <;> try (simp at h; done)
    rename_i v0 hx
    refine AopS.p h fun v S' e => ?_
    obtain ⟨a, w', g', r1, r2, r3, r4⟩ := boxAV_sound (P := P) (t := t) hi e (hr x v0 hx)
    exact ⟨_, w', g', by simp [execOp, Instr.box, r1], r2, r3, r4⟩
  | build t ps =>
    simp only [aop] at h
    split at h <;> try (simp at h; done)
    rename_i l hl
    refine AopS.v hi h fun v e => ?_
    obtain ⟨z, r1, r2⟩ := buildAV_sound (P := P) (w := w) (g := g) (xs := ps.map fun p => (p.1, ρ' p.2)) e (by simpa using evalP_sound hr hl)
    exact ⟨z, by simp only [execOp, Sem.run_bind]; rw [r1]; simp, r2⟩
  | buildSlice t n ps =>
    simp only [aop] at h
    split at h <;> try (simp at h; done)
    rename_i l hl
    refine AopS.p h fun v S' e => ?_
    obtain ⟨z, w', g', r1, r2, r3, r4⟩ := buildSliceAV_sound (P := P) hi (xs := ps.map fun p => (p.1, ρ' p.2)) e (by simpa using evalP_sound hr hl)
    exact ⟨z, w', g', by simp only [execOp, Sem.run_bind]; rw [r1]; simp, r2, r3, r4⟩
  | load t a =>
    simp only [aop] at h
    split at h <;> try (simp at h; done)
    rename_i p hp
    split at h <;> try (simp at h; done)
    rename_i cs hcs
    refine AopS.v hi h fun v e => ?_
    obtain ⟨y, r1, r2⟩ := loadAV_sound (P := P) hi hcs e (hr a p hp)
    exact ⟨y, by simp [execOp, r1], r2⟩
  | store t a x =>
    simp only [aop] at h
    split at h <;> try (simp at h; done)
    rename_i p v hp hv
    refine AopS.s h fun S' e => ?_
    obtain ⟨w', r1, r2, r3⟩ := storeAV_sound (P := P) hi e (hr a p hp) (hr x v hv)
    exact ⟨w', g, by simp [execOp, r1], r2, r3⟩
  | nilCheck x =>
    simp only [aop] at h
    split at h <;> simp only [Option.some.injEq, reduceCtorEq] at h
    all_goals
      rename_i hx
      subst h
      have hv := hr x _ hx
      refine ⟨ρ' x, w, g, ?_, hv, hi, Ext.refl _ _ _⟩
      generalize hy : ρ' x = y at hv
      cases hv <;> simp [execOp, hy]
  | binOp op t x y yt =>
    simp only [aop] at h
    split at h <;> try (simp at h; done)
    · rename_i hx hy
      split at h <;> try (simp at h; done)
      rename_i ms hu
      split at h <;> try (simp at h; done)
      rename_i hc
      have hx' := hr x _ hx
      have hy' := hr y _ hy
      refine AopS.v hi h fun v e => ?_
      have hgd : (eqGuard op t x y .nilIface .nilIface).run P w = .ok () w := by
        simp only [Bool.or_eq_true] at hc
        rcases hc with hc | hc
        · cases x <;> first | (simp [isConstO] at hc; done) | (unfold eqGuard; split <;> simp)
        · cases y <;> first | (simp [isConstO] at hc; done) | (unfold eqGuard; split <;> simp)
      generalize hxv : ρ' x = xv at hx'
      generalize hyv : ρ' y = yv at hy'
      cases hx' with | sc _ => ?_
      cases hy' with | sc _ => ?_
      have hq : (Op.equal t .nilIface .nilIface).run P w = .ok true w := by
        have : ∀ d, (Op.equalIn (d + 1) t .nilIface .nilIface).run P w = .ok true w := fun d => by simp [Op.equalIn, run_underlying' hu]
        exact this 9999
      obtain ⟨z, p, q⟩ := eqRes_run (P := P) (w := w) (g := g) e hq (by simp [binOp]) (by simp [binOp])
      exact ⟨z, by simp only [execOp, Sem.run_bind, hxv, hyv, hgd, Result.andThen_ok, p, Sem.run_pure], q⟩
    · rename_i a b _ hx hy
      refine AopS.v hi h fun v e => ?_
      obtain ⟨z, r1, r2, r3⟩ := binAV_sound (P := P) (w := w) (ox := x) (oy := y) e (hr x a hx) (hr y b hy)
      exact ⟨z, by simp only [execOp, Sem.run_bind, r1, r2, Result.andThen_ok, Sem.run_pure], r3⟩
  | unOp op t x =>
    simp only [aop] at h
    split at h <;> try (simp at h; done)
    rename_i a hx
    refine AopS.v hi h fun v e => ?_
    obtain ⟨z, r1, r2⟩ := unAV_sound (P := P) (w := w) e (hr x a hx)
    exact ⟨z, by simp [execOp, r1], r2⟩
  | convert s d x =>
    simp only [aop] at h
    split at h <;> try (simp at h; done)
    rename_i a hx
    refine AopS.v hi h fun v e => ?_
    obtain ⟨z, r1, r2⟩ := convAV_sound (P := P) (w := w) e (hr x a hx)
    exact ⟨z, by simp [execOp, r1], r2⟩
  | makeInterface t x =>
    simp only [aop] at h
    split at h <;> simp only [Option.some.injEq, reduceCtorEq] at h
    rename_i d v hne hu hx
    subst h
    refine ⟨.iface t (ρ' x), w, g, ?_, .ifc (hr x v hx), hi, Ext.refl _ _ _⟩
    simp only [execOp, Instr.makeInterface, Sem.run_bind, run_underlying' hu, Result.andThen_ok]
    cases d <;> first | exact (hne _ rfl).elim | simp
  | makeFunc f a b =>
    simp only [aop] at h
    split at h <;> simp only [Option.some.injEq, reduceCtorEq] at h
    rename_i x y hx hy
    subst h
    have h1 := evalL_sound hr hx
    have h2 := evalL_sound hr hy
    have e1 : (a.toList.map ρ').toArray = a.map ρ' := by apply Array.ext'; simp
    have e2 : (b.toList.map ρ').toArray = b.map ρ' := by apply Array.ext'; simp
    rw [e1] at h1; rw [e2] at h2
    exact ⟨.func f (a.map ρ') (b.map ρ'), w, g, by simp [execOp, Instr.makeFunc], .fn h1.1 h2.1 h1.2 h2.2, hi, Ext.refl _ _ _⟩
  | makeMap t r =>
    cases r with
    | some r => simp [aop] at h
    | none =>
      refine AopS.p h fun v S' e => ?_
      obtain ⟨z, w', g', r1, r2, r3, r4⟩ := makeMapAV_sound (P := P) (t := t) hi e
      exact ⟨z, w', g', by simp [execOp, r1], r2, r3, r4⟩
  | makeSlice t l c =>
    simp only [aop] at h
    split at h <;> try (simp at h; done)
    rename_i x y hx hy
    refine AopS.p h fun v S' e => ?_
    obtain ⟨z, w', g', r1, r2, r3, r4⟩ := makeSliceAV_sound (P := P) hi e (hr l x hx) (hr c y hy)
    exact ⟨z, w', g', by simp [execOp, r1], r2, r3, r4⟩
  | slice t x lo hi' mx =>
    cases mx with
    | some m =>
      cases lo with
      | some a => simp [aop] at h
      | none =>
        cases hi' with
        | none => simp [aop] at h
        | some hi2 =>
          simp only [aop] at h
          split at h <;> try (simp at h; done)
          rename_i a b c hx hb hc
          refine AopS.v hi h fun v e => ?_
          obtain ⟨z, r1, r2⟩ := clipAV_sound (P := P) (w := w) e (hr x a hx) (hr hi2 b hb) (hr m c hc)
          exact ⟨z, by simp only [execOp, Sem.run_bind, Option.map_none, Option.map_some]; rw [r1]; simp, r2⟩
    | none =>
      simp only [aop] at h
      split at h <;> try (simp at h; done)
      rename_i a l hh hx hl hhi
      refine AopS.v hi h fun v e => ?_
      have key : ∀ {oo : Option Operand} {r : Option AV}, (match oo with
          | none => some none
          | some a => match ρ a with
            | some v => some (some v)
            | none => none) = some r → (∀ a x, r = some a → oo.map ρ' = some x → VR g a x) ∧ r.isSome = (oo.map ρ').isSome := by
        intro oo r e
        cases oo with
        | none => simp only [Option.some.injEq] at e; subst e; simp
        | some a =>
          simp only at e
          split at e <;> simp only [Option.some.injEq, reduceCtorEq] at e
          rename_i v hv
          subst e
          refine ⟨fun a' x e1 e2 => ?_, rfl⟩
          simp only [Option.map_some, Option.some.injEq] at e1 e2
          subst e1; subst e2; exact hr a v hv
      obtain ⟨k1, k2⟩ := key hl
      obtain ⟨k3, k4⟩ := key hhi
      obtain ⟨z, r1, r2⟩ := sliceAV_sound (P := P) hi (lx := lo.map ρ') (hx := hi'.map ρ') e (hr x a hx).unclip k1 k3 k2 k4
      exact ⟨z, by simp only [execOp, Sem.run_bind, Option.map_none]; rw [r1]; simp, r2⟩
  | fieldAddr s x f =>
    simp only [aop] at h
    split at h <;> try (simp at h; done)
    rename_i a hx
    refine AopS.v hi h fun v e => ?_
    obtain ⟨z, r1, r2⟩ := fieldAddrAV_sound (P := P) (w := w) e (hr x a hx)
    exact ⟨z, by simp [execOp, r1], r2⟩
  | field t x f =>
    simp only [aop] at h
    split at h <;> try (simp at h; done)
    rename_i a hx
    refine AopS.v hi h fun v e => ?_
    obtain ⟨z, r1, r2⟩ := fieldAV_sound (P := P) (w := w) e (hr x a hx)
    exact ⟨z, by simp [execOp, r1], r2⟩
  | indexAddr t x ix =>
    simp only [aop] at h
    split at h <;> try (simp at h; done)
    rename_i a b hx hy
    refine AopS.v hi h fun v e => ?_
    obtain ⟨z, r1, r2⟩ := indexAddrAV_sound (P := P) hi e (hr x a hx).unclip (hr ix b hy)
    exact ⟨z, by simp [execOp, r1], r2⟩
  | index t x ix =>
    simp only [aop] at h
    split at h <;> try (simp at h; done)
    rename_i a b hx hy
    refine AopS.v hi h fun v e => ?_
    obtain ⟨z, r1, r2⟩ := indexAV_sound (P := P) (w := w) e (hr x a hx) (hr ix b hy)
    exact ⟨z, by simp [execOp, r1], r2⟩
  | lookup t x ix ok =>
    simp only [aop] at h
    split at h <;> try (simp at h; done)
    rename_i a b hx hy
    refine AopS.v hi h fun v e => ?_
    obtain ⟨z, r1, r2⟩ := lookupAV_sound (P := P) hi e (hr x a hx) (hr ix b hy)
    exact ⟨z, by simp [execOp, r1], r2⟩
  | mapUpdate t m k x =>
    simp only [aop] at h
    split at h <;> try (simp at h; done)
    rename_i a b c h1 h2 h3
    refine AopS.s h fun S' e => ?_
    obtain ⟨w', r1, r2, r3⟩ := updateAV_sound (P := P) hi e (hr m a h1) (hr k b h2) (hr x c h3)
    exact ⟨w', g, by simp [execOp, r1], r2, r3⟩
  | insert t m k x =>
    simp only [aop] at h
    split at h <;> try (simp at h; done)
    rename_i a b c h1 h2 h3
    refine AopS.s h fun S' e => ?_
    obtain ⟨w', r1, r2, r3⟩ := updateAV_sound (P := P) hi e (hr m a h1) (hr k b h2) (hr x c h3)
    exact ⟨w', g, by simp [execOp, r1], r2, r3⟩
  | range t x =>
    simp only [aop] at h
    split at h <;> try (simp at h; done)
    rename_i a hx
    refine AopS.p h fun v S' e => ?_
    obtain ⟨z, w', g', r1, r2, r3, r4⟩ := rangeAV_sound (P := P) hi e (hr x a hx)
    exact ⟨z, w', g', by simp [execOp, r1], r2, r3, r4⟩
  | next it s =>
    simp only [aop] at h
    split at h <;> try (simp at h; done)
    rename_i a hx
    refine AopS.p h fun v S' e => ?_
    obtain ⟨z, w', r1, r2, r3, r4⟩ := nextAV_sound (P := P) (t := ty) hi e (hr it a hx)
    exact ⟨z, w', g, by simp [execOp, r1], r2, r3, r4⟩
  | entry it =>
    simp only [aop] at h
    split at h <;> try (simp at h; done)
    rename_i a hx
    refine AopS.v hi h fun v e => ?_
    obtain ⟨z, r1, r2⟩ := entryAV_sound (P := P) hi e (hr it a hx)
    exact ⟨z, by simp [execOp, r1], r2⟩
  | typeAssert x xt t ok =>
    simp only [aop] at h
    split at h <;> try (simp at h; done)
    rename_i a hx
    refine AopS.v hi h fun v e => ?_
    obtain ⟨z, r1, r2⟩ := assertAV_sound (P := P) (w := w) (xt := xt) e (hr x a hx)
    exact ⟨z, by simp [execOp, r1], r2⟩
  | extract t ix =>
    simp only [aop] at h
    split at h <;> try (simp at h; done)
    rename_i vs hx
    refine AopS.v hi h fun v e => ?_
    rw [nth_eq] at e
    have hv := hr t _ hx
    generalize hy : ρ' t = y at hv
    cases hv with
    | tup hl hh =>
      obtain ⟨x, e1, e2⟩ := VRs.get ⟨hl, hh⟩ e
      exact ⟨x, by simp [execOp, hy, Instr.extract, e1], e2⟩
  | call c =>
    simp only [aop, callAV] at h
    split at h <;> try (simp at h; done)
    rename_i args hargs
    have hargs' := evalL_sound hr hargs
    have ea : (c.args.toList.map ρ').toArray = c.args.map ρ' := by apply Array.ext'; simp
    rw [ea] at hargs'
    split at h
    · rename_i b hc
      refine builtinAV_sound (cs := (c.args.map fun | .const _ => true | _ => false)) (ty := ty) hi h hargs' fun w' => ?_
      simp only [execOp, resolve, hc, Sem.run_bind, Sem.run_pure, Result.andThen_ok, invoke, Array.toArray_toList]
      rfl
    · rename_i r name hc
      split at h <;> try (simp at h; done)
      rename_i t v hx
      split at h <;> try (simp at h; done)
      rename_i f hm
      split at h <;> simp only [Option.some.injEq, reduceCtorEq] at h
      rename_i hb
      subst h
      have hv := hr r _ hx
      generalize hy : ρ' r = y at hv
      cases hv with
      | ifc hv =>
        rename_i x
        refine ⟨#[x] ++ c.args.map ρ', ?_, VRs.append (VRs.cons (xs := []) hv (VRs.nil g)) hargs'⟩
        have hn : P.types.size + Made.depth = (P.types.size + (Made.depth - 1)) + 1 := by
          have : 1 ≤ Made.depth := by decide
          omega
        simp only [execOp, resolve, hc, Sem.run_bind, Sem.run_pure, Result.andThen_ok, invoke, hy]
        have e0 : (#[Value.iface t x] ++ c.args.map ρ')[0]? = some (.iface t x) := by rw [Array.getElem?_append_left (by simp)]; rfl
        have e1 : (#[Value.iface t x] ++ c.args.map ρ').extract 1 (#[Value.iface t x] ++ c.args.map ρ').size = c.args.map ρ' := by
          apply Array.ext'
          rw [Array.toList_extract, List.extract_eq_take_drop]
          simp
          rw [List.take_of_length_le (by simp)]
        rw [e0]
        simp only [e1, callMethod, Sem.run_bind, run_program, Result.andThen_ok, hn, run_method hm, run_callFunc' hb]
    · rename_i f hc
      split at h <;> try (simp at h; done)
      · rename_i fg first cap hx
        split at h <;> simp only [Option.some.injEq, reduceCtorEq] at h
        rename_i hb
        subst h
        have hv := hr f _ hx
        generalize hy : ρ' f = y at hv
        cases hv with
        | fn q1 q2 q3 q4 =>
          rename_i xs ys
          refine ⟨xs ++ c.args.map ρ' ++ ys, ?_, VRs.append (VRs.append ⟨q1, q3⟩ hargs') ⟨q2, q4⟩⟩
          simp only [execOp, resolve, hc, Sem.run_bind, Sem.run_pure, Result.andThen_ok, invoke, hy, Deferred.ofValue, run_callFunc' hb]
      · rename_i id hx
        simp only [Option.some.injEq] at h; subst h
        have hv := hr f _ hx
        generalize hy : ρ' f = y at hv
        cases hv with
        | yld hl =>
          rename_i l
          refine ⟨l, c.args.map ρ', hl, ?_, hargs'⟩
          simp only [execOp, resolve, hc, Sem.run_bind, Sem.run_pure, Result.andThen_ok, invoke, hy, Deferred.ofValue, Array.empty_append]
  | defer c =>
    simp only [aop] at h
    split at h <;> try (simp at h; done)
    rename_i args hargs
    have hargs' := evalL_sound hr hargs
    have ea : (c.args.toList.map ρ').toArray = c.args.map ρ' := by apply Array.ext'; simp
    rw [ea] at hargs'
    split at h <;> try (simp at h; done)
    rename_i f hc
    split at h <;> try (simp at h; done)
    rename_i fg first cap hx
    split at h <;> simp only [Option.some.injEq, reduceCtorEq] at h
    rename_i hb
    subst h
    have hv := hr f _ hx
    generalize hy : ρ' f = y at hv
    cases hv with
    | fn q1 q2 q3 q4 =>
      rename_i xs ys
      refine ⟨ys, xs ++ c.args.map ρ', ?_, ⟨q2, q4⟩, VRs.append ⟨q1, q3⟩ hargs', hb⟩
      simp only [execOp, resolve, hc, Sem.run_bind, Sem.run_pure, Result.andThen_ok, hy, Deferred.ofValue]
  | panic x =>
    simp only [aop] at h
    split at h <;> simp only [Option.some.injEq, reduceCtorEq] at h
    rename_i t v hx
    subst h
    have hv := hr x _ hx
    generalize hy : ρ' x = y at hv
    cases hv with
    | ifc hv => exact ⟨_, by simp [execOp, hy, Instr.panic], .ifc hv⟩
  | _ => simp [aop] at h

end
end Go.Eng
