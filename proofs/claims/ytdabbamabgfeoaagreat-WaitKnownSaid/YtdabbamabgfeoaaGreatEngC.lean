/- Operations that only compute, on abstract values; no conditions. -/
import Derived.Test.YtdabbamabgfeoaaGreatEngB
import Derived.Laws.StructEq
namespace Go.Eng
noncomputable section

def intBin (op : BinOp) (k : IntKind) (a b : Int) : Option Value :=
  match op with
  | .add => some (.int k (k.wrap (a + b)))
  | .sub => some (.int k (k.wrap (a - b)))
  | .mul => some (.int k (k.wrap (a * b)))
  | .quo => if b = 0 then none else some (.int k (k.wrap (a.tdiv b)))
  | .rem => if b = 0 then none else some (.int k (a.tmod b))
  | .and => some (.int k (k.wrap (BitVec.ofInt k.bits a &&& BitVec.ofInt k.bits b).toNat))
  | .or => some (.int k (k.wrap (BitVec.ofInt k.bits a ||| BitVec.ofInt k.bits b).toNat))
  | .xor => some (.int k (k.wrap (BitVec.ofInt k.bits a ^^^ BitVec.ofInt k.bits b).toNat))
  | .andNot => some (.int k (k.wrap (BitVec.ofInt k.bits a &&& ~~~BitVec.ofInt k.bits b).toNat))
  | .eql => some (.bool (a == b))
  | .neq => some (.bool (a != b))
  | .lss => some (.bool (decide (a < b)))
  | .leq => some (.bool (decide (a ≤ b)))
  | .gtr => some (.bool (decide (a > b)))
  | .geq => some (.bool (decide (a ≥ b)))
  | _ => none

def intShift (op : BinOp) (k : IntKind) (a b : Int) : Option Value :=
  if b < 0 then none else
  match op with
  | .shl => some (.int k (k.wrap (a * 2 ^ (min b.toNat k.bits))))
  | .shr => some (.int k (a.fdiv (2 ^ (min b.toNat k.bits))))
  | _ => none

section
variable {P : Program} {w : World}
theorem run_intBin {op : BinOp} {t : TypeId} {k : IntKind} {a b : Int} {v : Value} (h : intBin op k a b = some v) : (binOp op t (.int k a) (.int k b)).run P w = .ok v w := by
  cases op <;> simp only [intBin, Option.some.injEq, reduceCtorEq] at h <;>
    first
      | (subst h; simp [binOp, Op.intArith, Op.intCmp, Op.intBits]; done)
      | (split at h
         · simp at h
         · rename_i hb; simp only [Option.some.injEq] at h; subst h; simp [binOp, Op.intDiv, hb])
theorem run_intShift {op : BinOp} {t : TypeId} {k k' : IntKind} {a b : Int} {v : Value} (h : intShift op k a b = some v) : (binOp op t (.int k a) (.int k' b)).run P w = .ok v w := by
  unfold intShift at h
  split at h
  · simp at h
  · rename_i hb
    cases op <;> simp only [Option.some.injEq, reduceCtorEq] at h <;> (subst h; simp [binOp, Op.shift, hb])
theorem run_eqGuard_int {op : BinOp} {t : TypeId} {x y : Operand} {k k' : IntKind} {a b : Int} : (eqGuard op t x y (.int k a) (.int k' b)).run P w = .ok () w := by
  unfold eqGuard; split <;> simp
end

def isShift : BinOp → Bool
  | .shl => true
  | .shr => true
  | _ => false

def eqSc (P : Program) (t : TypeId) (a b : Value) : Option Bool :=
  match P.underlying t, a, b with
  | some (.int _), .int k x, .int k' y => if k = k' then some (x == y) else none
  | some .bool, .bool x, .bool y => some (x == y)
  | some .string, .string x, .string y => some (x.data.toList == y.data.toList)
  | _, _, _ => none

theorem run_eqSc {P : Program} {w : World} {d : Nat} {t : TypeId} {a b : Value} {r : Bool} (h : eqSc P t a b = some r) : (Op.equalIn (d + 1) t a b).run P w = .ok r w := by
  unfold eqSc at h
  split at h
  · rename_i hu
    split at h <;> simp only [Option.some.injEq, reduceCtorEq] at h
    rename_i hk; subst hk; subst h
    exact run_equalIn_int w d t _ _ _ _ hu
  · rename_i hu
    simp only [Option.some.injEq] at h; subst h
    exact run_equalIn_bool' w d t _ _ hu
  · rename_i hu
    simp only [Option.some.injEq] at h; subst h
    rw [run_equalIn_string w d t _ _ hu, ByteArray.toList_eq, ByteArray.toList_eq]
  · simp at h

def eqFs (P : Program) : List Field → List AV → List AV → Option Bool
  | [], _, _ => some true
  | f :: fs, xs, ys => if f.name ≠ "_" ∧ aggT P f.type = some false then
      match nth xs f.offset, nth ys f.offset with
      | some (.sc a), some (.sc b) => match eqSc P f.type a b with
        | some true => eqFs P fs xs ys
        | some false => some false
        | none => none
      | _, _ => none
    else none

theorem run_eqFs {P : Program} {w : World} {g : Gh} {d : Nat} {xs ys : List AV} {xa ya : Array Value} (hx : VRs g xs xa) (hy : VRs g ys ya) : ∀ {fs : List Field} {r : Bool}, eqFs P fs xs ys = some r →
    (Op.eqFields (d + 1) xa ya fs).run P w = .ok r w := by
  intro fs
  induction fs with
  | nil => intro r h; simp only [eqFs, Option.some.injEq] at h; subst h; simp [Op.eqFields]
  | cons f fs ih =>
    intro r h
    simp only [eqFs] at h
    split at h
    · rename_i hc
      obtain ⟨hn, ha⟩ := hc
      split at h
      · rename_i a b e1 e2
        rw [nth_eq] at e1 e2
        obtain ⟨a', p1, p2⟩ := hx.get e1
        obtain ⟨b', q1, q2⟩ := hy.get e2
        cases p2 with | sc _ => ?_
        cases q2 with | sc _ => ?_
        have k1 : (part f.type xa f.offset).run P w = .ok a w := by simp [part, run_isAgg ha, p1]
        have k2 : (part f.type ya f.offset).run P w = .ok b w := by simp [part, run_isAgg ha, q1]
        split at h <;> try (simp at h; done)
        · rename_i e
          simp only [Op.eqFields, if_pos hn, Sem.run_bind, k1, k2, Result.andThen_ok, run_eqSc e]
          simpa using ih h
        · rename_i e
          simp only [Option.some.injEq] at h; subst h
          simp only [Op.eqFields, if_pos hn, Sem.run_bind, k1, k2, Result.andThen_ok, run_eqSc e]
          simp
      · simp at h
    · simp at h

def strBin (op : BinOp) (x y : ByteArray) : Option Value :=
  match op with
  | .eql => some (.bool (x.data.toList == y.data.toList))
  | .neq => some (.bool (!(x.data.toList == y.data.toList)))
  | .lss => some (.bool (Op.bytesLess x.data.toList y.data.toList))
  | .leq => some (.bool (Op.bytesLess x.data.toList y.data.toList || x.data.toList == y.data.toList))
  | .gtr => some (.bool (!(Op.bytesLess x.data.toList y.data.toList || x.data.toList == y.data.toList)))
  | .geq => some (.bool (!Op.bytesLess x.data.toList y.data.toList))
  | _ => none

def eqRes (op : BinOp) (r : Bool) : Option AV :=
  match op with
  | .eql => some (.sc (.bool r))
  | .neq => some (.sc (.bool (!r)))
  | _ => none

def binAV (P : Program) (op : BinOp) (t : TypeId) (a b : AV) : Option AV :=
  match a, b with
  | .sc (.int k x), .sc (.int k' y) => match isShift op with
    | true => match intShift op k x y with
      | some v => match isSc v with
        | true => some (.sc v)
        | false => none
      | none => none
    | false => if k = k' then
        match intBin op k x y with
        | some v => match isSc v with
          | true => some (.sc v)
          | false => none
        | none => none
      else none
  | .sc (.bool x), .sc (.bool y) => match P.underlying t with
    | some .bool => eqRes op (x == y)
    | _ => none
  | .sc (.string x), .sc (.string y) => match strBin op x y with
    | some v => match isSc v with
      | true => some (.sc v)
      | false => none
    | none => none
  | .ptr _ _ _, .sc (.pointer none) => match P.underlying t with
    | some (.pointer _) => eqRes op false
    | _ => none
  | .lptr _, .sc (.pointer none) => match P.underlying t with
    | some (.pointer _) => eqRes op false
    | _ => none
  | .sc (.pointer none), .sc (.pointer none) => match P.underlying t with
    | some (.pointer _) => eqRes op true
    | _ => none
  | .ifc _ _, .sc .nilIface => match P.underlying t with
    | some (.interface _) => eqRes op false
    | _ => none
  | .nilS, .nilS => match P.underlying t with
    | some (.slice _) => eqRes op true
    | _ => none
  | .sref _ _ _, .nilS => match P.underlying t with
    | some (.slice _) => eqRes op false
    | _ => none
  | .lit (_ :: _), .nilS => match P.underlying t with
    | some (.slice _) => eqRes op false
    | _ => none
  | .fn _ _ _, .sc .nilFunc => match P.underlying t with
    | some (.func _ _ _) => eqRes op false
    | _ => none
  | .yld _, .sc .nilFunc => match P.underlying t with
    | some (.func _ _ _) => eqRes op false
    | _ => none
  | .sc .nilFunc, .sc .nilFunc => match P.underlying t with
    | some (.func _ _ _) => eqRes op true
    | _ => none
  | .mapr _, .sc (.map none) => match P.underlying t with
    | some (.map _ _) => eqRes op false
    | _ => none
  | .sc (.map none), .sc (.map none) => match P.underlying t with
    | some (.map _ _) => eqRes op true
    | _ => none
  | .agg xs, .agg ys => match P.underlying t with
    | some (.struct fs) => match P.stoodInHeld t || P.eqGuardType P.depth t with
      | false => match eqFs P fs.toList xs ys with
        | some r => eqRes op r
        | none => none
      | true => none
    | _ => none
  | _, _ => none

theorem eqRes_run {P : Program} {w : World} {op : BinOp} {t : TypeId} {x y : Value} {r : Bool} {v : AV} {g : Gh} (h : eqRes op r = some v) (hr : (Op.equal t x y).run P w = .ok r w)
    (h1 : binOp .eql t x y = (do pure (.bool (← Op.equal t x y)))) (h2 : binOp .neq t x y = (do pure (.bool (!(← Op.equal t x y))))) : ∃ z, (binOp op t x y).run P w = .ok z w ∧ VR g v z := by
  cases op <;> simp only [eqRes, Option.some.injEq, reduceCtorEq] at h
  · subst h; exact ⟨_, by rw [h1]; simp [hr], .sc rfl⟩
  · subst h; exact ⟨_, by rw [h2]; simp [hr], .sc rfl⟩

theorem eqIn_ptr_nil {P : Program} {w : World} {d : Nat} {t e : TypeId} {a : Addr} (hu : P.underlying t = some (.pointer e)) : (Op.equalIn (d + 1) t (.pointer (some a)) (.pointer none)).run P w = .ok false w := by
  simp [Op.equalIn, run_underlying' hu]
theorem eqIn_nil_nil {P : Program} {w : World} {d : Nat} {t e : TypeId} (hu : P.underlying t = some (.pointer e)) : (Op.equalIn (d + 1) t (.pointer none) (.pointer none)).run P w = .ok true w := by
  simp [Op.equalIn, run_underlying' hu]
theorem eqIn_ifc_nil {P : Program} {w : World} {d : Nat} {t u : TypeId} {ms : Array (String × TypeId)} {v : Value} (hu : P.underlying t = some (.interface ms)) : (Op.equalIn (d + 1) t (.iface u v) .nilIface).run P w = .ok false w := by
  simp [Op.equalIn, run_underlying' hu]

theorem eqIn_fn_nil {P : Program} {w : World} {d : Nat} {t : TypeId} {a b c} {f : Fn} {xs ys : Array Value} (hu : P.underlying t = some (.func a b c)) : (Op.equalIn (d + 1) t (.func f xs ys) .nilFunc).run P w = .ok false w := by
  simp [Op.equalIn, run_underlying' hu]
theorem eqIn_fnn {P : Program} {w : World} {d : Nat} {t : TypeId} {a b c} (hu : P.underlying t = some (.func a b c)) : (Op.equalIn (d + 1) t .nilFunc .nilFunc).run P w = .ok true w := by
  simp [Op.equalIn, run_underlying' hu]
theorem eqIn_map_nil {P : Program} {w : World} {d : Nat} {t a b : TypeId} {m : Nat} (hu : P.underlying t = some (.map a b)) : (Op.equalIn (d + 1) t (.map (some m)) (.map none)).run P w = .ok false w := by
  simp [Op.equalIn, run_underlying' hu]
theorem eqIn_mapn {P : Program} {w : World} {d : Nat} {t a b : TypeId} (hu : P.underlying t = some (.map a b)) : (Op.equalIn (d + 1) t (.map none) (.map none)).run P w = .ok true w := by
  simp [Op.equalIn, run_underlying' hu]
theorem eqIn_slice_nn {P : Program} {w : World} {d : Nat} {t e : TypeId} (hu : P.underlying t = some (.slice e)) : (Op.equalIn (d + 1) t (.slice none 0 0) (.slice none 0 0)).run P w = .ok true w := by
  simp [Op.equalIn, run_underlying' hu]
theorem eqIn_slice_sn {P : Program} {w : World} {d : Nat} {t e : TypeId} {a : Addr} {m n : Nat} (hu : P.underlying t = some (.slice e)) : (Op.equalIn (d + 1) t (.slice (some a) m n) (.slice none 0 0)).run P w = .ok false w := by
  simp [Op.equalIn, run_underlying' hu]

theorem binAV_sound {P : Program} {w : World} {g : Gh} {op : BinOp} {t : TypeId} {ox oy : Operand} {a b r : AV} {x y : Value} (h : binAV P op t a b = some r) (ha : VR g a x) (hb : VR g b y) :
    ∃ z, (eqGuard op t ox oy x y).run P w = .ok () w ∧ (binOp op t x y).run P w = .ok z w ∧ VR g r z := by
  unfold binAV at h
  split at h
  · rename_i k m k' n
    cases ha with | sc _ => ?_
    cases hb with | sc _ => ?_
    split at h
    · split at h <;> try (simp at h; done)
      rename_i v e
      split at h <;> simp only [Option.some.injEq, reduceCtorEq] at h
      rename_i hv; subst h
      exact ⟨v, run_eqGuard_int, run_intShift e, .sc hv⟩
    · split at h <;> try (simp at h; done)
      rename_i hk; subst hk
      split at h <;> try (simp at h; done)
      rename_i v e
      split at h <;> simp only [Option.some.injEq, reduceCtorEq] at h
      rename_i hv; subst h
      exact ⟨v, run_eqGuard_int, run_intBin e, .sc hv⟩
  · cases ha with | sc _ => ?_
    cases hb with | sc _ => ?_
    split at h <;> try (simp at h; done)
    rename_i hu
    obtain ⟨z, p, q⟩ := eqRes_run (P := P) (w := w) (g := g) h (run_equalIn_bool' w 9999 t _ _ hu) (by simp [binOp]) (by simp [binOp])
    exact ⟨z, by unfold eqGuard; split <;> simp, p, q⟩
  · cases ha with | sc _ => ?_
    cases hb with | sc _ => ?_
    split at h <;> try (simp at h; done)
    rename_i v e
    split at h <;> simp only [Option.some.injEq, reduceCtorEq] at h
    rename_i hv; subst h
    refine ⟨v, by unfold eqGuard; split <;> simp, ?_, .sc hv⟩
    cases op <;> simp only [strBin, Option.some.injEq, reduceCtorEq] at e <;> (subst e; simp [binOp, Op.stringOp, ByteArray.toList_eq])
  · cases hb with | sc _ => ?_
    cases ha with | ptr _ => ?_
    split at h <;> try (simp at h; done)
    rename_i hu
    have hq := fun a => eqIn_ptr_nil (P := P) (w := w) (d := 9999) (a := a) hu
    obtain ⟨z, p, q⟩ := eqRes_run (P := P) (w := w) (g := g) h (hq _) (by simp [binOp]) (by simp [binOp])
    exact ⟨z, by unfold eqGuard; split <;> simp, p, q⟩
  · cases hb with | sc _ => ?_
    cases ha with | lptr _ _ _ => ?_
    split at h <;> try (simp at h; done)
    rename_i hu
    have hq := fun a => eqIn_ptr_nil (P := P) (w := w) (d := 9999) (a := a) hu
    obtain ⟨z, p, q⟩ := eqRes_run (P := P) (w := w) (g := g) h (hq _) (by simp [binOp]) (by simp [binOp])
    exact ⟨z, by unfold eqGuard; split <;> simp, p, q⟩
  · cases hb with | sc _ => ?_
    cases ha with | sc _ => ?_
    split at h <;> try (simp at h; done)
    rename_i hu
    have hq := eqIn_nil_nil (P := P) (w := w) (d := 9999) hu
    obtain ⟨z, p, q⟩ := eqRes_run (P := P) (w := w) (g := g) h hq (by simp [binOp]) (by simp [binOp])
    exact ⟨z, by unfold eqGuard; split <;> simp, p, q⟩
  · cases hb with | sc _ => ?_
    cases ha with | ifc _ => ?_
    split at h <;> try (simp at h; done)
    rename_i hu
    have hq := fun u v => eqIn_ifc_nil (P := P) (w := w) (d := 9999) (u := u) (v := v) hu
    obtain ⟨z, p, q⟩ := eqRes_run (P := P) (w := w) (g := g) h (hq _ _) (by simp [binOp]) (by simp [binOp])
    exact ⟨z, by unfold eqGuard; split <;> simp, p, q⟩
  · cases ha with | nilS => ?_
    cases hb with | nilS => ?_
    split at h <;> try (simp at h; done)
    rename_i hu
    have hq := eqIn_slice_nn (P := P) (w := w) (d := 9999) hu
    obtain ⟨z, p, q⟩ := eqRes_run (P := P) (w := w) (g := g) h hq (by simp [binOp]) (by simp [binOp])
    exact ⟨z, by unfold eqGuard; split <;> simp, p, q⟩
  · cases hb with | nilS => ?_
    split at h <;> try (simp at h; done)
    rename_i hu
    have hq := fun a m n => eqIn_slice_sn (P := P) (w := w) (d := 9999) (a := a) (m := m) (n := n) hu
    cases ha with
    | sref _ _ _ =>
      obtain ⟨z, p, q⟩ := eqRes_run (P := P) (w := w) (g := g) h (hq _ _ _) (by simp [binOp]) (by simp [binOp])
      exact ⟨z, by unfold eqGuard; split <;> simp, p, q⟩
    | srefz =>
      obtain ⟨z, p, q⟩ := eqRes_run (P := P) (w := w) (g := g) h (hq _ _ _) (by simp [binOp]) (by simp [binOp])
      exact ⟨z, by unfold eqGuard; split <;> simp, p, q⟩
  · cases hb with | nilS => ?_
    split at h <;> try (simp at h; done)
    rename_i hu
    have hq := fun a m n => eqIn_slice_sn (P := P) (w := w) (d := 9999) (a := a) (m := m) (n := n) hu
    cases ha with
    | lit _ _ _ _ _ =>
      obtain ⟨z, p, q⟩ := eqRes_run (P := P) (w := w) (g := g) h (hq _ _ _) (by simp [binOp]) (by simp [binOp])
      exact ⟨z, by unfold eqGuard; split <;> simp, p, q⟩
  · cases hb with | sc _ => ?_
    cases ha with | fn _ _ _ _ => ?_
    split at h <;> try (simp at h; done)
    rename_i hu
    obtain ⟨z, p, q⟩ := eqRes_run (P := P) (w := w) (g := g) h (eqIn_fn_nil (d := 9999) hu) (by simp [binOp]) (by simp [binOp])
    exact ⟨z, by unfold eqGuard; split <;> simp, p, q⟩
  · cases hb with | sc _ => ?_
    cases ha with | yld _ => ?_
    split at h <;> try (simp at h; done)
    rename_i hu
    obtain ⟨z, p, q⟩ := eqRes_run (P := P) (w := w) (g := g) h (eqIn_fn_nil (d := 9999) hu) (by simp [binOp]) (by simp [binOp])
    exact ⟨z, by unfold eqGuard; split <;> simp, p, q⟩
  · cases hb with | sc _ => ?_
    cases ha with | sc _ => ?_
    split at h <;> try (simp at h; done)
    rename_i hu
    obtain ⟨z, p, q⟩ := eqRes_run (P := P) (w := w) (g := g) h (eqIn_fnn (d := 9999) hu) (by simp [binOp]) (by simp [binOp])
    exact ⟨z, by unfold eqGuard; split <;> simp, p, q⟩
  · cases hb with | sc _ => ?_
    cases ha with | mapr _ => ?_
    split at h <;> try (simp at h; done)
    rename_i hu
    obtain ⟨z, p, q⟩ := eqRes_run (P := P) (w := w) (g := g) h (eqIn_map_nil (d := 9999) hu) (by simp [binOp]) (by simp [binOp])
    exact ⟨z, by unfold eqGuard; split <;> simp, p, q⟩
  · cases hb with | sc _ => ?_
    cases ha with | sc _ => ?_
    split at h <;> try (simp at h; done)
    rename_i hu
    obtain ⟨z, p, q⟩ := eqRes_run (P := P) (w := w) (g := g) h (eqIn_mapn (d := 9999) hu) (by simp [binOp]) (by simp [binOp])
    exact ⟨z, by unfold eqGuard; split <;> simp, p, q⟩
  · rename_i xs ys
    cases ha with | agg l1 h1 => ?_
    rename_i xa
    cases hb with | agg l2 h2 => ?_
    rename_i ya
    split at h <;> try (simp at h; done)
    rename_i fs hu
    split at h <;> try (simp at h; done)
    rename_i hs
    rw [Bool.or_eq_false_iff] at hs
    split at h <;> try (simp at h; done)
    rename_i r e
    have hf : P.fieldsOf t = fs := by simp [Program.fieldsOf, hu]
    have hq : (Op.equal t (.agg xa) (.agg ya)).run P w = .ok r w := by
      simp only [Op.equal, Op.maxDepth]
      rw [run_equalIn_struct (P := P) w 9999 t _ _ (by rw [hf]; exact hu) hs.1, hf]
      exact run_eqFs (d := 9998) ⟨l1, h1⟩ ⟨l2, h2⟩ e
    obtain ⟨z, p, q⟩ := eqRes_run (P := P) (w := w) (g := g) h hq (by simp [binOp]) (by simp [binOp])
    exact ⟨z, run_eqGuard_agg w op t ox oy _ _ hs.2, p, q⟩
  · simp at h

def unAV (op : UnOp) (a : AV) : Option AV :=
  match op, a with
  | .not, .sc (.bool b) => some (.sc (.bool (!b)))
  | .neg, .sc (.int k n) => some (.sc (.int k (k.wrap (0 - n))))
  | _, _ => none
theorem unAV_sound {P : Program} {w : World} {g : Gh} {op : UnOp} {a r : AV} {x : Value} (h : unAV op a = some r) (ha : VR g a x) : ∃ z, (Op.unary op x).run P w = .ok z w ∧ VR g r z := by
  unfold unAV at h
  split at h <;> simp only [Option.some.injEq, reduceCtorEq] at h
  · subst h; cases ha with | sc _ => exact ⟨_, by simp [Op.unary], .sc rfl⟩
  · subst h; cases ha with | sc _ => exact ⟨_, by simp [Op.unary, Op.intArith], .sc rfl⟩

def convAV (P : Program) (src dst : TypeId) (a : AV) : Option AV :=
  match P.underlying src, P.underlying dst, a with
  | some (.int _), some (.int k), .sc (.int _ n) => some (.sc (.int k (k.wrap n)))
  | _, _, _ => none
theorem convAV_sound {P : Program} {w : World} {g : Gh} {src dst : TypeId} {a r : AV} {x : Value} (h : convAV P src dst a = some r) (ha : VR g a x) : ∃ z, (convert src dst x).run P w = .ok z w ∧ VR g r z := by
  unfold convAV at h
  split at h <;> simp only [Option.some.injEq, reduceCtorEq] at h
  rename_i h1 h2
  subst h; cases ha with | sc _ => exact ⟨_, by simp [convert, run_underlying' h1, run_underlying' h2, Conv.intToInt], .sc rfl⟩

/- A field of a struct's value. -/
def partAV (P : Program) (t : TypeId) (cs : List AV) (off : Nat) : Option AV :=
  match aggT P t with
  | some true => match szT P t with
    | some n => match Nat.ble (off + n) cs.length with
      | true => some (.agg ((cs.drop off).take n))
      | false => none
    | none => none
  | some false => nth cs off
  | none => none
theorem partAV_sound {P : Program} {w : World} {g : Gh} {t : TypeId} {cs : List AV} {xs : Array Value} {off : Nat} {r : AV} (h : partAV P t cs off = some r) (hc : VRs g cs xs) :
    ∃ z, (part t xs off).run P w = .ok z w ∧ VR g r z := by
  unfold partAV at h
  split at h
  · rename_i ha
    split at h <;> try (simp at h; done)
    rename_i n hn
    split at h <;> simp only [Option.some.injEq, reduceCtorEq] at h
    rename_i hle
    have hle := Nat.le_of_ble_eq_true hle
    subst h
    refine ⟨.agg (xs.extract off (off + n)), by simp [part, run_isAgg ha, run_sizeOf hn], .agg ?_ ?_⟩
    · have := hc.1; simp; omega
    · intro k a x e e'
      rw [List.getElem?_take] at e
      split at e
      · rw [List.getElem?_drop] at e
        rw [Array.getElem?_extract] at e'
        split at e'
        · exact hc.2 _ a x e e'
        · simp at e'
      · simp at e
  · rename_i ha
    rw [nth_eq] at h
    obtain ⟨x, e, hv⟩ := hc.get h
    exact ⟨x, by simp [part, run_isAgg ha, e], hv⟩
  · simp at h

def fieldAV (P : Program) (xt : TypeId) (a : AV) (f : Nat) : Option AV :=
  match P.underlying xt, a with
  | some (.struct fs), .agg cs => match nth fs.toList f with
    | some d => partAV P d.type cs d.offset
    | none => none
  | _, _ => none
theorem fieldAV_sound {P : Program} {w : World} {g : Gh} {xt : TypeId} {a r : AV} {x : Value} {f : Nat} (h : fieldAV P xt a f = some r) (ha : VR g a x) : ∃ z, (Instr.field xt x f).run P w = .ok z w ∧ VR g r z := by
  unfold fieldAV at h
  split at h <;> try (simp at h; done)
  rename_i fs cs hu
  split at h <;> try (simp at h; done)
  rename_i d hd
  rw [nth_eq] at hd
  have hd' : fs[f]? = some d := by simpa using hd
  cases ha with
  | agg hl hh =>
    obtain ⟨z, e, hv⟩ := partAV_sound (P := P) (w := w) h ⟨hl, hh⟩
    exact ⟨z, by simp [Instr.field, run_underlying' hu, hd', asAgg, e], hv⟩

/- The address of a field. -/
def fieldAddrAV (P : Program) (s : TypeId) (a : AV) (f : Nat) : Option AV :=
  match P.underlying s with
  | some (.struct fs) => match nth fs.toList f with
    | some d => match szT P d.type with
      | some (_ + 1) => match a with
        | .ptr id i j => some (.ptr id i (j + d.offset))
        | .lptr cs => match Nat.ble d.offset cs.length with
          | true => some (.lptr (cs.drop d.offset))
          | false => none
        | _ => none
      | _ => none
    | none => none
  | _ => none
theorem fieldAddrAV_sound {P : Program} {w : World} {g : Gh} {s : TypeId} {a r : AV} {x : Value} {f : Nat} (h : fieldAddrAV P s a f = some r) (ha : VR g a x) : ∃ z, (Instr.fieldAt s x f).run P w = .ok z w ∧ VR g r z := by
  unfold fieldAddrAV at h
  split at h <;> try (simp at h; done)
  rename_i fs hu
  split at h <;> try (simp at h; done)
  rename_i d hd
  rw [nth_eq] at hd
  have hd' : fs[f]? = some d := by simpa using hd
  split at h <;> try (simp at h; done)
  rename_i n hn
  have key : ∀ b o, (Instr.fieldAt s (.pointer (some ⟨b, o, none⟩)) f).run P w = .ok (.pointer (some ⟨b, o + d.offset, none⟩)) w := by
    intro b o
    simp [Instr.fieldAt, run_underlying' hu, hd', Instr.sureAddr, fieldPlace, run_sizeOf hn, Addr.add_none]
  split at h
  · simp only [Option.some.injEq] at h; subst h
    cases ha with
    | ptr hl => exact ⟨_, key _ _, by rw [Nat.add_assoc]; exact .ptr hl⟩
  · split at h <;> simp only [Option.some.injEq, reduceCtorEq] at h
    rename_i hle
    have hle := Nat.le_of_ble_eq_true hle
    subst h
    cases ha with
    | lptr hr hb hh =>
      refine ⟨_, key _ _, .lptr hr (by simp; omega) ?_⟩
      intro j a y e e'
      rw [List.getElem?_drop] at e
      exact hh _ a y e (by rw [← e']; congr 1; omega)
  · simp at h

/- The address of an element. -/
def indexAddrAV (P : Program) (S : Sto) (t : TypeId) (a ix : AV) : Option AV :=
  match ix with
  | .sc (.int _ (.ofNat k)) => match P.underlying t with
    | some (.slice el) => match szT P el with
      | some n => match a with
        | .sref id off len => match Nat.ble (k + 1) len with
          | true => match S.get id with
            | some (.arr sz _) => match Nat.beq sz n with
              | true => some (.ptr id (off + k) 0)
              | false => none
            | _ => none
          | false => none
        | .lit es => match nth es k with
          | some e => match Nat.beq e.cells.length n with
            | true => some (.lptr e.cells)
            | false => none
          | none => none
        | _ => none
      | none => none
    | some (.array len el) => match szT P el with
      | some n => match Nat.ble (k + 1) len with
        | true => match a with
          | .ptr id i j => some (.ptr id i (j + k * n))
          | .lptr cs => match Nat.ble (k * n) cs.length with
            | true => some (.lptr (cs.drop (k * n)))
            | false => none
          | _ => none
        | false => none
      | none => none
    | _ => none
  | _ => none

theorem indexAddrAV_sound {P : Program} {S : Sto} {w : World} {g : Gh} (hi : Inv S g w) {t : TypeId} {a ix r : AV} {x y : Value} (h : indexAddrAV P S t a ix = some r) (ha : VR g a x) (hx : VR g ix y) :
    ∃ z, (Instr.indexAt t x y).run P w = .ok z w ∧ VR g r z := by
  unfold indexAddrAV at h
  split at h <;> try (simp at h; done)
  rename_i kk k
  cases hx with | sc _ => ?_
  split at h <;> try (simp at h; done)
  · rename_i el hu
    split at h <;> try (simp at h; done)
    rename_i n hn
    have key : ∀ b o len cap, k < len → (Instr.indexAt t (.slice (some ⟨b, o, none⟩) len cap) (.int kk (.ofNat k))).run P w = .ok (.pointer (some ⟨b, o + k * n, none⟩)) w := by
      intro b o len cap hk
      simp only [Instr.indexAt, asIntOf, Sem.run_bind, Sem.run_pure, Result.andThen_ok, run_underlying' hu]
      rw [if_pos (by constructor <;> simp; omega)]
      simp [run_sizeOf hn, Addr.add_none]
    split at h
    · rename_i id off len
      split at h <;> try (simp at h; done)
      rename_i hk
      have hk := Nat.le_of_ble_eq_true hk
      split at h <;> try (simp at h; done)
      rename_i sz es hg
      split at h <;> simp only [Option.some.injEq, reduceCtorEq] at h
      rename_i hsz
      have hsz := Nat.eq_of_beq_eq_true hsz
      subst h
      cases ha with
      | srefz => omega
      | sref hl hc hb =>
        rename_i cap l
        obtain ⟨l', q1, q2, q3⟩ := hi.ob _ _ hg
        rw [hl] at q1; simp only [Option.some.injEq] at q1; subst q1
        obtain ⟨c, t', p1, p2, p3, p4, p5, p6⟩ := q3
        refine ⟨_, key _ _ _ _ (by omega), ?_⟩
        have : l.base + off * l.sz + k * n = l.base + (off + k) * l.sz + 0 := by rw [p3, hsz, Nat.add_mul]; omega
        exact this ▸ .ptr hl
    · rename_i es
      split at h <;> try (simp at h; done)
      rename_i e he
      rw [nth_eq] at he
      have hlt : k < es.length := (List.getElem?_eq_some_iff.1 he).1
      split at h <;> simp only [Option.some.injEq, reduceCtorEq] at h
      rename_i hsz
      have hsz := Nat.eq_of_beq_eq_true hsz
      subst h
      cases ha with
      | lit hr hs hb hcap hh =>
        rename_i b o sz cap c
        have e1 := hs e (List.mem_of_getElem? he)
        refine ⟨_, key _ _ _ _ hlt, .lptr hr ?_ ?_⟩
        · have : k * sz + sz ≤ es.length * sz := by
            have : (k + 1) * sz ≤ es.length * sz := Nat.mul_le_mul_right _ hlt
            rw [Nat.succ_mul] at this; exact this
          rw [hsz, ← hsz, e1]; omega
        · intro j a z q q'
          exact hh k j e a z he q (by rw [← q', ← hsz, e1])
      | lit0 => simp at hlt
    · simp at h
  · rename_i len el hu
    split at h <;> try (simp at h; done)
    rename_i n hn
    split at h <;> try (simp at h; done)
    rename_i hk
    have hk := Nat.le_of_ble_eq_true hk
    have key : ∀ b o, (Instr.indexAt t (.pointer (some ⟨b, o, none⟩)) (.int kk (.ofNat k))).run P w = .ok (.pointer (some ⟨b, o + k * n, none⟩)) w := by
      intro b o
      simp only [Instr.indexAt, asIntOf, Sem.run_bind, Sem.run_pure, Result.andThen_ok, run_underlying' hu, Instr.sureAddr]
      rw [if_pos (by constructor <;> simp; omega)]
      simp [run_sizeOf hn, Addr.add_none]
    split at h
    · simp only [Option.some.injEq] at h; subst h
      cases ha with
      | ptr hl => exact ⟨_, key _ _, by rw [Nat.add_assoc]; exact .ptr hl⟩
    · split at h <;> simp only [Option.some.injEq, reduceCtorEq] at h
      rename_i hle
      have hle := Nat.le_of_ble_eq_true hle
      subst h
      cases ha with
      | lptr hr hb hh =>
        refine ⟨_, key _ _, .lptr hr (by simp; omega) ?_⟩
        intro j a y e e'
        rw [List.getElem?_drop] at e
        exact hh _ a y e (by rw [← e']; congr 1; omega)
    · simp at h

end
end Go.Eng
