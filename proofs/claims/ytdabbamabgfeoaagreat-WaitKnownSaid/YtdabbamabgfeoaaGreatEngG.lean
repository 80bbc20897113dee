/- len, index, copy, maps, strings' iterators, assertions of types and calls on abstract values; no conditions. -/
import Derived.Test.YtdabbamabgfeoaaGreatEngF
namespace Go.Eng
noncomputable section

/- len. -/
def lenAV (P : Program) (S : Sto) (t : TypeId) (x : AV) : Option Nat :=
  match P.underlying t, x with
  | some .string, .sc (.string s) => some s.size
  | some (.array n _), _ => some n
  | some (.slice _), .lit es => some es.length
  | some (.slice _), .sref _ _ n => some n
  | some (.slice _), .nils => some 0
  | some (.slice _), .nilS => some 0
  | some (.map _ _), .sc (.map none) => some 0
  | some (.map _ _), .mapr id => match S.get id with
    | some (.mp kvs) => some kvs.length
    | _ => none
  | _, _ => none

theorem lenAV_sound {P : Program} {S : Sto} {g : Gh} {w : World} (hi : Inv S g w) {t ty : TypeId} {ts : List TypeId} {x : AV} {y : Value} {n : Nat} (h : lenAV P S t x = some n) (hv : VR g x y) :
    (Builtin.len_ (t :: ts).toArray ty #[y]).run P w = .ok (.int .i64 n) w := by
  unfold lenAV at h
  split at h <;> (try simp only [Option.some.injEq, reduceCtorEq] at h)
  · rename_i hu; subst h; cases hv with | sc _ => simp [Builtin.len_, run_underlying' hu, goInt]
  · rename_i hu; subst h; cases y <;> simp [Builtin.len_, goInt, run_underlying' hu]
  · rename_i hu; subst h; cases hv <;> simp [Builtin.len_, run_underlying' hu, goInt]
  · rename_i hu; subst h; cases hv <;> simp [Builtin.len_, run_underlying' hu, goInt]
  · rename_i hu; subst h; cases hv <;> simp [Builtin.len_, run_underlying' hu, goInt]
  · rename_i hu; subst h; cases hv <;> simp [Builtin.len_, run_underlying' hu, goInt]
  · rename_i hu; subst h; cases hv with | sc _ => simp [Builtin.len_, run_underlying' hu, goInt]
  · rename_i id hu
    split at h <;> simp only [Option.some.injEq, reduceCtorEq] at h
    rename_i kvs hg
    subst h
    cases hv with
    | mapr hl =>
      obtain ⟨l', q1, q2, q3⟩ := hi.ob _ _ hg
      rw [hl] at q1; simp only [Option.some.injEq] at q1; subst q1
      obtain ⟨es, k, p1, p2, p3⟩ := q3
      simp [Builtin.len_, run_underlying' hu, goInt, getObj, Sem.run, p1, p2]

/- cap of a slice without room. -/
def capAV (P : Program) (t : TypeId) (x : AV) : Option Nat :=
  match P.underlying t, x with
  | some (.slice _), .nils => some 0
  | some (.slice _), .nilS => some 0
  | _, _ => none
theorem capAV_sound {P : Program} {g : Gh} {w : World} {t ty : TypeId} {ts : List TypeId} {x : AV} {y : Value} {n : Nat} (h : capAV P t x = some n) (hv : VR g x y) :
    (Builtin.cap_ (t :: ts).toArray ty #[y]).run P w = .ok (.int .i64 n) w := by
  unfold capAV at h
  split at h <;> simp only [Option.some.injEq, reduceCtorEq] at h
  · rename_i e hu
    subst h
    cases hv
    simp [Builtin.cap_, run_underlying' hu, goInt]
  · rename_i e hu
    subst h
    cases hv
    simp [Builtin.cap_, run_underlying' hu, goInt]

/- An element of an array's value, or a byte. -/
def indexAV (P : Program) (t : TypeId) (a ix : AV) : Option AV :=
  match P.underlying t, a, natAV ix with
  | some (.array len el), .agg cs, some k => match Nat.ble (k + 1) len, szT P el with
    | true, some n => partAV P el cs (k * n)
    | _, _ => none
  | some .string, .sc (.string s), some k => match s[k]? with
    | some b => some (.sc (.int .u8 b.toNat))
    | none => none
  | _, _, _ => none
theorem indexAV_sound {P : Program} {w : World} {g : Gh} {t : TypeId} {a ix r : AV} {x y : Value} (h : indexAV P t a ix = some r) (ha : VR g a x) (hx : VR g ix y) : ∃ z, (Instr.index t x y).run P w = .ok z w ∧ VR g r z := by
  unfold indexAV at h
  split at h <;> try (simp at h; done)
  · rename_i len el cs k hu hk
    obtain ⟨kk, rfl⟩ := natAV_sound hk hx
    split at h <;> try (simp at h; done)
    rename_i n hle hn
    have hle := Nat.le_of_ble_eq_true hle
    cases ha with
    | agg hl hh =>
      obtain ⟨z, e, hv⟩ := partAV_sound (P := P) (w := w) h ⟨hl, hh⟩
      refine ⟨z, ?_, hv⟩
      simp only [Instr.index, asIntOf, Sem.run_bind, Sem.run_pure, Result.andThen_ok, run_underlying' hu]
      rw [if_pos (by constructor <;> simp; omega)]
      simp only [Sem.run_bind, run_sizeOf hn, Result.andThen_ok]
      exact e
  · rename_i s k hu hk
    obtain ⟨kk, rfl⟩ := natAV_sound hk hx
    split at h <;> simp only [Option.some.injEq, reduceCtorEq] at h
    rename_i b hb
    subst h
    cases ha with
    | sc _ => exact ⟨_, by simp [Instr.index, asIntOf, run_underlying' hu, hb], .sc rfl⟩

/- max, min. -/
def maxAV (isMax : Bool) : List AV → Option AV
  | [.sc (.int .i64 a)] => some (.sc (.int .i64 a))
  | [.sc (.int k a), .sc (.int k' b)] => if k = k' then some (.sc (.int k (match isMax with
      | true => if b > a then b else a
      | false => if b < a then b else a))) else none
  | _ => none

/- copy. -/
def copyAV (P : Program) (S : Sto) (ts : List TypeId) (d x : AV) : Option (Nat × Sto) :=
  match ts with
  | t :: _ => match P.underlying t, d with
    | some (.slice el), .sref id off len => match S.get id, elsAV S x, szT P el with
      | some (.arr sz es), some xs, some n => match Nat.beq sz n && Nat.ble S.lim id && Nat.ble (off + len) es.length && sized n xs with
        | true => some (min xs.length len, S.set id (.arr sz (setL es off (xs.take (min xs.length len)))))
        | false => none
      | _, _, _ => none
    | _, _ => none
  | _ => none

theorem maxAV_sound {P : Program} {w : World} {g : Gh} {l : List AV} {xs : Array Value} {ts : Array TypeId} {t : TypeId} {r : AV} (h : maxAV true l = some r) (hv : VRs g l xs) : ∃ z, (Builtin.max_ ts t xs).run P w = .ok z w ∧ VR g r z := by
  unfold maxAV at h
  split at h <;> try (simp at h; done)
  · obtain ⟨x, e, hx⟩ := hv.get (k := 0) rfl
    have hs : xs.size = 1 := hv.1.symm
    have hxs : xs.toList = [x] := by
      apply List.ext_getElem?; intro k
      match k with
      | 0 => simpa using e
      | k + 1 => rw [List.getElem?_eq_none (by simp [hs])]; simp
    simp only [Option.some.injEq] at h; subst h
    cases hx with | sc _ => exact ⟨_, by simp [Builtin.max_, hxs], .sc rfl⟩
  · obtain ⟨x, e, hx⟩ := hv.get (k := 0) rfl
    obtain ⟨y, e', hy⟩ := hv.get (k := 1) rfl
    have hs : xs.size = 2 := hv.1.symm
    have hxs : xs.toList = [x, y] := by
      apply List.ext_getElem?; intro k
      match k with
      | 0 => simpa using e
      | 1 => simpa using e'
      | k + 2 => rw [List.getElem?_eq_none (by simp [hs])]; simp
    split at h <;> simp only [Option.some.injEq, reduceCtorEq] at h
    rename_i hk; subst hk; subst h
    cases hx with | sc _ => ?_
    cases hy with | sc _ => ?_
    exact ⟨_, by simp [Builtin.max_, hxs, Builtin.max2], .sc rfl⟩
theorem minAV_sound {P : Program} {w : World} {g : Gh} {l : List AV} {xs : Array Value} {ts : Array TypeId} {t : TypeId} {r : AV} (h : maxAV false l = some r) (hv : VRs g l xs) : ∃ z, (Builtin.min_ ts t xs).run P w = .ok z w ∧ VR g r z := by
  unfold maxAV at h
  split at h <;> try (simp at h; done)
  · obtain ⟨x, e, hx⟩ := hv.get (k := 0) rfl
    have hs : xs.size = 1 := hv.1.symm
    have hxs : xs.toList = [x] := by
      apply List.ext_getElem?; intro k
      match k with
      | 0 => simpa using e
      | k + 1 => rw [List.getElem?_eq_none (by simp [hs])]; simp
    simp only [Option.some.injEq] at h; subst h
    cases hx with | sc _ => exact ⟨_, by simp [Builtin.min_, hxs], .sc rfl⟩
  · obtain ⟨x, e, hx⟩ := hv.get (k := 0) rfl
    obtain ⟨y, e', hy⟩ := hv.get (k := 1) rfl
    have hs : xs.size = 2 := hv.1.symm
    have hxs : xs.toList = [x, y] := by
      apply List.ext_getElem?; intro k
      match k with
      | 0 => simpa using e
      | 1 => simpa using e'
      | k + 2 => rw [List.getElem?_eq_none (by simp [hs])]; simp
    split at h <;> simp only [Option.some.injEq, reduceCtorEq] at h
    rename_i hk; subst hk; subst h
    cases hx with | sc _ => ?_
    cases hy with | sc _ => ?_
    exact ⟨_, by simp [Builtin.min_, hxs, Builtin.min2], .sc rfl⟩

theorem ElsR.take {g : Gh} {n : Nat} {es : List AV} {c : Array Value} (h : ElsR g n es c) (k : Nat) : ElsR g n (es.take k) c :=
  ⟨Nat.le_trans (Nat.mul_le_mul_right _ (by simp; omega)) h.1, fun e he => h.2.1 e (List.mem_of_mem_take he), fun i j e a y f1 f2 f3 => by
    rw [List.getElem?_take] at f1
    split at f1
    · exact h.2.2 i j e a y f1 f2 f3
    · simp at f1⟩

theorem take0_vr {S : Sto} {g : Gh} {x : AV} {es : List AV} {a : Option Addr} {n cap k cap2 : Nat} (h : elsAV0 S x = some es) (hv : VR g x (.slice a n cap)) (hk : k ≤ es.length) (hk2 : k ≤ cap2) (hc2 : cap2 ≤ cap) : ∃ x', elsAV S x' = some (es.take k) ∧ VR g x' (.slice a k cap2) := by
  unfold elsAV0 at h
  split at h <;> try (simp at h; done)
  · simp only [Option.some.injEq] at h; subst h
    refine ⟨.lit (List.take k _), rfl, ?_⟩
    cases hv with
    | lit0 => simp at hk; subst hk; exact .lit0
    | lit hr hs hb hcap hh =>
      rename_i es b o sz c
      have hl : (es.take k).length = k := by simp; omega
      have := VR.lit (g := g) (es := es.take k) (cap := cap2) hr (sz := sz) (fun e he => hs e (List.mem_of_mem_take he)) (Nat.le_trans (Nat.add_le_add_left (Nat.mul_le_mul_right _ (by omega)) _) hb) (by omega)
        (fun i j e a x f1 f2 f3 => by
          rw [List.getElem?_take] at f1
          split at f1
          · exact hh i j e a x f1 f2 f3
          · simp at f1)
      rw [hl] at this; exact this
  · rename_i id off len
    split at h <;> try (simp at h; done)
    rename_i sz es' hg
    split at h <;> simp only [Option.some.injEq, reduceCtorEq] at h
    rename_i hle
    have hle' := Nat.le_of_ble_eq_true hle
    subst h
    have hl : ((es'.drop off).take len).length = len := by simp; omega
    rw [hl] at hk
    refine ⟨.sref id off k, ?_, ?_⟩
    · simp only [elsAV, elsAV0, hg]
      rw [show (off + k).ble es'.length = true from Nat.ble_eq_true_of_le (by omega)]
      simp only [Option.some.injEq]
      rw [List.take_take, Nat.min_eq_left hk]
    · cases hv with
      | srefz => simp at hk; subst hk; have : cap2 = 0 := by omega
                 subst this; exact .srefz
      | sref hl' hc hb => exact .sref hl' (by omega) (Nat.le_trans (Nat.add_le_add_left (Nat.mul_le_mul_right _ (by omega)) _) hb)
  · simp only [Option.some.injEq] at h; subst h
    simp at hk; subst hk
    cases hv with | nilS => have : cap2 = 0 := by omega
                            subst this; exact ⟨.nilS, rfl, .nilS⟩
  · simp only [Option.some.injEq] at h; subst h
    simp at hk; subst hk
    cases hv with | nils => have : cap2 = 0 := by omega
                            subst this; exact ⟨.nils, rfl, .nils⟩
theorem len0_vr {S : Sto} {g : Gh} {x : AV} {es : List AV} {a : Option Addr} {n cap : Nat} (h : elsAV0 S x = some es) (hv : VR g x (.slice a n cap)) : es.length = n ∧ n ≤ cap := by
  unfold elsAV0 at h
  split at h <;> try (simp at h; done)
  · simp only [Option.some.injEq] at h; subst h
    cases hv with
    | lit0 => exact ⟨rfl, Nat.zero_le _⟩
    | lit hr hs hb hcap hh => exact ⟨rfl, hcap⟩
  · split at h <;> try (simp at h; done)
    split at h <;> simp only [Option.some.injEq, reduceCtorEq] at h
    rename_i hle
    have hle' := Nat.le_of_ble_eq_true hle
    subst h
    cases hv with
    | srefz => exact ⟨by simp, Nat.zero_le _⟩
    | sref hl' hc hb => exact ⟨by simp; omega, hc⟩
  · simp only [Option.some.injEq] at h; subst h
    cases hv with | nilS => exact ⟨rfl, Nat.le_refl _⟩
  · simp only [Option.some.injEq] at h; subst h
    cases hv with | nils => exact ⟨rfl, Nat.le_refl _⟩
theorem take_vr {S : Sto} {g : Gh} {x : AV} {es : List AV} {a : Option Addr} {n cap k : Nat} (h : elsAV S x = some es) (hv : VR g x (.slice a n cap)) (hk : k ≤ es.length) : ∃ x', elsAV S x' = some (es.take k) ∧ VR g x' (.slice a k cap) := by
  unfold elsAV at h
  split at h
  · cases hv with | clip hv => ?_
    obtain ⟨e1, e2⟩ := len0_vr h hv
    exact take0_vr h hv hk (by omega) e2
  · obtain ⟨e1, e2⟩ := len0_vr h hv
    exact take0_vr h hv hk (by omega) (Nat.le_refl _)

theorem copyAV_sound {P : Program} {S S' : Sto} {g : Gh} {w : World} (hi : Inv S g w) {ts : List TypeId} {t : TypeId} {d x : AV} {dv xv : Value} {n : Nat} (h : copyAV P S ts d x = some (n, S')) (hd : VR g d dv) (hx : VR g x xv) :
    ∃ w', (Builtin.copy_ ts.toArray t #[dv, xv]).run P w = .ok (.int .i64 n) w' ∧ Inv S' g w' ∧ Ext S g w S' g w' := by
  unfold copyAV at h
  split at h <;> try (simp at h; done)
  rename_i st ts
  split at h <;> try (simp at h; done)
  rename_i el id off len hst
  split at h <;> try (simp at h; done)
  rename_i sz es xs sn hg hxs hsz
  split at h <;> simp only [Option.some.injEq, Prod.mk.injEq, reduceCtorEq] at h
  rename_i hb
  simp only [Bool.and_eq_true] at hb
  obtain ⟨⟨⟨b1, b2⟩, b3⟩, b4⟩ := hb
  have b1 := Nat.eq_of_beq_eq_true b1
  have b2 := Nat.le_of_ble_eq_true b2
  have b3 := Nat.le_of_ble_eq_true b3
  obtain ⟨rfl, rfl⟩ := h
  subst b1
  have b4' : sized sz (xs.take (min xs.length len)) = true := List.all_eq_true.2 fun e he => List.all_eq_true.1 b4 e (List.mem_of_mem_take he)
  have hml : (xs.take (min xs.length len)).length = min xs.length len := by simp
  obtain ⟨xa, xcap, xc, hxe, hxcap, _, _, _⟩ := els_sound (P := P) hi hxs hx b4
  subst hxe
  obtain ⟨x', hx1, hx2⟩ := take_vr (k := min xs.length len) hxs hx (Nat.min_le_left _ _)
  obtain ⟨ya, ycap, cc, hye, hycap, hcr, hcE, hcs⟩ := els_sound (P := P) hi hx1 hx2 b4'
  rw [hml] at hye hcr hcs
  simp only [Value.slice.injEq] at hye
  obtain ⟨rfl, _, rfl⟩ := hye
  have hcc : (Builtin.firstCells sz (min xs.length len) (.slice xa xs.length xcap)).run P w = .ok cc w := by
    rw [← hcr w rfl]; cases xa <;> rfl
  have hlen : (Builtin.lenOf (.slice xa xs.length xcap)).run P w = .ok xs.length w := rfl
  cases hd with
  | srefz =>
    rename_i a
    have h0 : min xs.length 0 = 0 := Nat.min_zero _
    rw [h0] at hcc hcs ⊢
    have : cc = #[] := Array.eq_empty_of_size_eq_zero (by rw [hcs]; simp)
    subst this
    refine ⟨w, ?_, ?_⟩
    · simp only [Builtin.copy_, List.getElem?_toArray, List.getElem?_cons_zero, List.getElem?_cons_succ, Sem.run_bind, run_underlying' hst, Result.andThen_ok, hlen, run_sizeOf hsz]
      show ((Builtin.firstCells sz (Nat.min xs.length 0) _).run P w).andThen _ = _
      rw [show Nat.min xs.length 0 = 0 from h0, hcc]
      simp [storeCells, goInt]
    · have e0 : setL es off (xs.take 0) = es := by cases es <;> rfl
      rw [e0]
      have hid := Sto.lt_of_get hg
      obtain ⟨l, q1, q2, q3⟩ := hi.ob _ _ hg
      obtain ⟨c, t', p1, p2⟩ := q3
      exact hi.upd hg b2 q1 rfl p1 (fun _ _ => rfl) rfl rfl rfl ⟨c, t', rfl, p2⟩
  | sref hl hcap hbz =>
    rename_i cap l
    obtain ⟨l', q1, q2, q3⟩ := hi.ob _ _ hg
    rw [hl] at q1; simp only [Option.some.injEq] at q1; subst q1
    obtain ⟨c, t', p1, p2, p3, p4, p5, p6⟩ := q3
    have hcl : cc.toList.length = min xs.length len * sz := by rw [show cc.toList.length = cc.size from Array.length_toList]; exact hcs
    have hroom : l.base + off * l.sz + cc.toList.length ≤ c.size := by
      rw [hcl, p3]
      have : (off + min xs.length len) * sz ≤ es.length * sz := Nat.mul_le_mul_right _ (by omega)
      rw [Nat.add_mul] at this; omega
    have hone : ∀ y, y ∈ cc.toList → y.oneCell' = true := by
      intro y hy
      obtain ⟨k, hk⟩ := List.getElem?_of_mem hy
      have hk' : cc[k]? = some y := by simpa using hk
      have hkl : k < min xs.length len * sz := by rw [← hcs]; exact (Array.getElem?_eq_some_iff.1 hk').1
      have hsp : 0 < sz := by
        rcases Nat.eq_zero_or_pos sz with e | e
        · rw [e] at hkl; simp at hkl
        · exact e
      have h1 : k / sz < (xs.take (min xs.length len)).length := by rw [hml]; exact Nat.div_lt_of_lt_mul (by rw [Nat.mul_comm]; exact hkl)
      have h2 : k % sz < sz := Nat.mod_lt _ hsp
      obtain ⟨s1, s2⟩ := sized_get b4' (List.getElem_mem h1)
      have h3 : k % sz < (xs.take (min xs.length len))[k / sz].cells.length := by rw [s1]; exact h2
      refine isCell_sound (List.all_eq_true.1 s2 _ (List.getElem_mem h3)) (hcE.2.2 _ _ _ _ y (List.getElem?_eq_getElem h1) (List.getElem?_eq_getElem h3) ?_)
      rw [← hk']; congr 1; rw [Nat.mul_comm]; exact Nat.div_add_mod k sz
    obtain ⟨w', r1, r2, r3, r4, r5, r6, r7⟩ := run_storeCells (P := P) (b := l.blk) (o := l.base + off * l.sz) (t := t') cc.toList w c 0 p1 (by omega) hone
    refine ⟨w', ?_, ?_⟩
    · simp only [Builtin.copy_, List.getElem?_toArray, List.getElem?_cons_zero, List.getElem?_cons_succ, Sem.run_bind, run_underlying' hst, Result.andThen_ok, hlen, run_sizeOf hsz]
      show ((Builtin.firstCells sz (min xs.length len) _).run P w).andThen _ = _
      rw [hcc]
      simp only [Result.andThen_ok, r1, Sem.run_pure]
      rfl
    · refine hi.upd hg b2 hl r4 r2 r3 r5 r6 r7 ⟨_, t', rfl, by simp [setL_length, p2], p3, by simp [setL_length]; exact p4, ?_, ?_⟩
      · intro e he
        obtain ⟨k, hk⟩ := List.getElem?_of_mem he
        rw [setL_get _ _ _ (by rw [hml]; omega)] at hk
        split at hk
        · exact (sized_get b4' (List.mem_of_getElem? hk)).1
        · exact p5 e (List.mem_of_getElem? hk)
      · intro i j e a y f1 f2 f3
        rw [setL_get _ _ _ (by rw [hml]; omega), hml] at f1
        rw [List.getElem?_toArray, setL_get _ _ _ (by omega), hcl] at f3
        simp only [Nat.add_zero] at f3
        by_cases hin : off ≤ i ∧ i < off + min xs.length len
        · rw [if_pos hin] at f1
          have hj : j < sz := by rw [← (sized_get b4' (List.mem_of_getElem? f1)).1]; exact (List.getElem?_eq_some_iff.1 f2).1
          have hm : (i - off) * sz + sz ≤ min xs.length len * sz := by
            have : (i - off + 1) * sz ≤ min xs.length len * sz := Nat.mul_le_mul_right _ (by omega)
            rw [Nat.succ_mul] at this; exact this
          have hio : i * sz = off * sz + (i - off) * sz := by rw [← Nat.add_mul]; congr 1; omega
          rw [if_pos (by rw [p3]; omega)] at f3
          refine hcE.2.2 _ j e a y f1 f2 ?_
          rw [← Array.getElem?_toList, ← f3]; congr 1; rw [p3]; omega
        · rw [if_neg hin] at f1
          have hj : j < sz := by rw [← p5 e (List.mem_of_getElem? f1)]; exact (List.getElem?_eq_some_iff.1 f2).1
          have hne : ¬ (l.base + off * l.sz ≤ l.base + i * sz + j ∧ l.base + i * sz + j < l.base + off * l.sz + min xs.length len * sz) := by
            rw [p3]
            rintro ⟨c1, c2⟩
            rcases Nat.lt_or_ge i off with hlt | hge
            · have : (i + 1) * sz ≤ off * sz := Nat.mul_le_mul_right _ hlt
              rw [Nat.succ_mul] at this; omega
            · have : (off + min xs.length len) * sz ≤ i * sz := Nat.mul_le_mul_right _ (by omega)
              rw [Nat.add_mul] at this; omega
          rw [if_neg hne] at f3
          exact p6 i j e a y f1 f2 (by simpa using f3)

/- Keys of maps. -/
def kEq (d : TypeDesc) (a b : AV) : Option Bool :=
  match d, a, b with
  | .int _, .sc (.int k x), .sc (.int k' y) => if k = k' then some (x == y) else none
  | .string, .sc (.string x), .sc (.string y) => some (x.data.toList == y.data.toList)
  | .bool, .sc (.bool x), .sc (.bool y) => some (x == y)
  | _, _, _ => none
def findAV (d : TypeDesc) (k : AV) : List (AV × AV) → Nat → Option (Option (Nat × AV))
  | [], _ => some none
  | kv :: r, i => match kEq d k kv.1 with
    | some true => some (some (i, kv.2))
    | some false => findAV d k r (i + 1)
    | none => none
def keyKind (d : TypeDesc) : Bool :=
  match d with
  | .int _ => true
  | .string => true
  | .bool => true
  | _ => false

theorem kEq_sound {g : Gh} {d : TypeDesc} {a b : AV} {x y : Value} {r : Bool} (h : kEq d a b = some r) (ha : VR g a x) (hb : VR g b y) : Instr.sameNow d x y = some r := by
  unfold kEq at h
  split at h <;> try (simp at h; done)
  · cases ha with | sc _ => ?_
    cases hb with | sc _ => ?_
    split at h <;> simp only [Option.some.injEq, reduceCtorEq] at h
    rename_i hk; subst hk; subst h; simp [Instr.sameNow]
  · cases ha with | sc _ => ?_
    cases hb with | sc _ => ?_
    simp only [Option.some.injEq] at h; subst h
    simp only [Instr.sameNow, Option.some.injEq]
    rw [beq_toListBytes, ByteArray.toList_eq, ByteArray.toList_eq]
  · cases ha with | sc _ => ?_
    cases hb with | sc _ => ?_
    simp only [Option.some.injEq] at h; subst h; simp [Instr.sameNow]

theorem findAV_sound {g : Gh} {d : TypeDesc} {k : AV} {x : Value} (hk : VR g k x) : ∀ {kvs : List (AV × AV)} {es : List MapEntry} {i : Nat} {r : Option (Nat × AV)}, findAV d k kvs i = some r → es.length = kvs.length →
    (∀ (j : Nat) (kv : AV × AV) (e : MapEntry), kvs[j]? = some kv → es[j]? = some e → VR g kv.1 e.key ∧ VR g kv.2 e.val) →
    ∃ q, Instr.findNow d x es i = some q ∧ (match r, q with
      | none, none => True
      | some (j, v), some (j', y) => j = j' ∧ VR g v y ∧ i ≤ j ∧ j < i + kvs.length ∧ (∃ kv e, kvs[j - i]? = some kv ∧ es[j - i]? = some e ∧ kEq d k kv.1 = some true)
      | _, _ => False) := by
  intro kvs
  induction kvs with
  | nil =>
    intro es i r h hl _
    simp only [findAV, Option.some.injEq] at h; subst h
    have : es = [] := List.eq_nil_of_length_eq_zero (by simpa using hl)
    subst this
    exact ⟨none, rfl, trivial⟩
  | cons kv kvs ih =>
    intro es i r h hl hr
    cases es with
    | nil => simp at hl
    | cons e es =>
      have h0 := hr 0 kv e rfl rfl
      simp only [findAV] at h
      split at h <;> try (simp at h; done)
      · rename_i he
        simp only [Option.some.injEq] at h; subst h
        refine ⟨some (i, e.val), ?_, rfl, h0.2, Nat.le_refl _, by simp, kv, e, by simp, by simp, he⟩
        simp only [Instr.findNow, kEq_sound he hk h0.1]
      · rename_i he
        obtain ⟨q, q1, q2⟩ := ih h (by simpa using hl) (fun j kv' e' p p' => hr (j + 1) kv' e' (by simpa using p) (by simpa using p'))
        refine ⟨q, by simp only [Instr.findNow, kEq_sound he hk h0.1]; exact q1, ?_⟩
        cases r with
        | none => cases q with
          | none => trivial
          | some _ => exact q2.elim
        | some rv =>
          obtain ⟨j, v⟩ := rv
          cases q with
          | none => exact q2.elim
          | some qv =>
            obtain ⟨j', y⟩ := qv
            obtain ⟨a1, a2, a3, a4, kv', e', a5, a6, a7⟩ := q2
            have e0 : j - i = (j - (i + 1)) + 1 := by omega
            exact ⟨a1, a2, by omega, by simp; omega, kv', e', by rw [e0]; simpa using a5, by rw [e0]; simpa using a6, a7⟩

theorem run_checkKey' {P : Program} {w : World} {b : Bool} {n : Nat} {kt : TypeId} {d : TypeDesc} {x : Value} (hu : P.underlying kt = some d) (hd : keyKind d = true) : (Instr.checkKey b (n + 1) kt x).run P w = .ok () w := by
  simp only [Instr.checkKey, Sem.run_bind, run_underlying' hu, Result.andThen_ok]
  cases d <;> first
    | (simp [keyKind] at hd; done)
    | (cases x <;> rfl)

theorem run_checkKey {P : Program} {w : World} {b : Bool} {kt : TypeId} {d : TypeDesc} {x : Value} (hu : P.underlying kt = some d) (hd : keyKind d = true) : (Instr.checkKey b 10000 kt x).run P w = .ok () w :=
  run_checkKey' (n := 9999) hu hd

theorem run_findKey {P : Program} {w : World} {kt : TypeId} {d : TypeDesc} {x : Value} {es : List MapEntry} {q : Option (Nat × Value)} (hu : P.underlying kt = some d) (h : Instr.findNow d x es 0 = some q) :
    (Instr.findKey kt x es).run P w = .ok q w := by
  simp only [Instr.findKey, Sem.run_bind, run_underlying' hu, Result.andThen_ok, h, Sem.run_pure]

def lookupAV (P : Program) (S : Sto) (t : TypeId) (m k : AV) (ok : Bool) : Option AV :=
  match P.underlying t with
  | some (.map kt et) => match P.underlying kt, (match m with
      | .mapr id => match S.get id with
        | some (.mp kvs) => some kvs
        | _ => none
      | .sc (.map none) => some []
      | _ => none) with
    | some d, some kvs => match keyKind d, findAV d k kvs 0 with
      | true, some (some (_, v)) => some (match ok with
        | true => .tup [v, .sc (.bool true)]
        | false => v)
      | true, some none => match zeroAV P et with
        | some z => some (match ok with
          | true => .tup [z, .sc (.bool false)]
          | false => z)
        | none => none
      | _, _ => none
    | _, _ => none
  | _ => none

theorem VRs.two {g : Gh} {a b : AV} {x y : Value} (h : VR g a x) (h' : VR g b y) : VRs g [a, b] #[x, y] := VRs.cons (xs := [y]) h (VRs.cons (xs := []) h' (VRs.nil g))
theorem VR.two {g : Gh} {a b : AV} {x y : Value} (h : VR g a x) (h' : VR g b y) : VR g (.tup [a, b]) (.tuple #[x, y]) := .tup (VRs.two h h').1 (VRs.two h h').2

theorem map_es {S : Sto} {g : Gh} {w : World} (hi : Inv S g w) {m : AV} {x : Value} {kvs : List (AV × AV)} (h : (match m with
      | .mapr id => match S.get id with
        | some (.mp kvs) => some kvs
        | _ => none
      | .sc (.map none) => some []
      | _ => none) = some kvs) (hv : VR g m x) : ∃ es : Array MapEntry, ((x = .map none ∧ es = #[]) ∨ ∃ r ck, x = .map (some r) ∧ w.heap[r]? = some (.map es ck)) ∧ es.toList.length = kvs.length ∧ (∀ (j : Nat) (kv : AV × AV) (e : MapEntry), kvs[j]? = some kv → es.toList[j]? = some e → VR g kv.1 e.key ∧ VR g kv.2 e.val) := by
  split at h <;> try (simp at h; done)
  · split at h <;> simp only [Option.some.injEq, reduceCtorEq] at h
    rename_i kvs' hg
    subst h
    cases hv with
    | mapr hl =>
      obtain ⟨l', q1, q2, q3⟩ := hi.ob _ _ hg
      rw [hl] at q1; simp only [Option.some.injEq] at q1; subst q1
      obtain ⟨es, k, p1, p2, p3, _⟩ := q3
      exact ⟨es, .inr ⟨_, k, rfl, p1⟩, by simpa using p2, fun j kv e a b => p3 j kv e a (by simpa using b)⟩
  · simp only [Option.some.injEq] at h; subst h
    cases hv with | sc _ => exact ⟨#[], .inl ⟨rfl, rfl⟩, by simp, by simp⟩

theorem lookupAV_sound {P : Program} {S : Sto} {g : Gh} {w : World} (hi : Inv S g w) {t : TypeId} {m k r : AV} {x y : Value} {ok : Bool} (h : lookupAV P S t m k ok = some r) (hm : VR g m x) (hk : VR g k y) :
    ∃ z, (Instr.lookup t x y ok).run P w = .ok z w ∧ VR g r z := by
  unfold lookupAV at h
  split at h <;> try (simp at h; done)
  rename_i kt et hu
  split at h <;> try (simp at h; done)
  rename_i d kvs hd hkv
  obtain ⟨es, e1, e2, e3⟩ := map_es hi hkv hm
  split at h <;> try (simp at h; done)
  · rename_i i v hkk hf
    simp only [Option.some.injEq] at h
    obtain ⟨q, q1, q2⟩ := findAV_sound hk hf e2 e3
    cases q with
    | none => exact q2.elim
    | some qv =>
      obtain ⟨j', z⟩ := qv
      obtain ⟨a1, a2, _⟩ := q2
      refine ⟨if ok then .tuple #[z, .bool true] else z, ?_, ?_⟩
      · rcases e1 with ⟨rfl, rfl⟩ | ⟨rr, ck, rfl, e1⟩ <;>
          simp only [Instr.lookup, Sem.run_bind, run_underlying' hu, Result.andThen_ok, getObj, Sem.run, Sem.run_pure, *, run_checkKey hd hkk, run_findKey hd q1]
      · subst h; cases ok
        · exact a2
        · exact VR.two a2 (.sc rfl)
  · rename_i hkk hf
    split at h <;> simp only [Option.some.injEq, reduceCtorEq] at h
    rename_i z hz
    obtain ⟨zc, hzr, hzv⟩ := zeroAV_sound (P := P) (w := w) (g := g) hz
    obtain ⟨q, q1, q2⟩ := findAV_sound hk hf e2 e3
    cases q with
    | some qv => exact q2.elim
    | none =>
      refine ⟨if ok then .tuple #[zc, .bool false] else zc, ?_, ?_⟩
      · rcases e1 with ⟨rfl, rfl⟩ | ⟨rr, ck, rfl, e1⟩ <;>
          simp only [Instr.lookup, Sem.run_bind, run_underlying' hu, Result.andThen_ok, getObj, Sem.run, Sem.run_pure, *, run_checkKey hd hkk, run_findKey hd q1]
      · subst h; cases ok
        · exact hzv
        · exact VR.two hzv (.sc rfl)

def isScA : AV → Bool
  | .sc _ => true
  | _ => false

def updateAV (P : Program) (S : Sto) (t : TypeId) (m k v : AV) : Option Sto :=
  match P.underlying t, m with
  | some (.map kt _), .mapr id => match P.underlying kt, S.get id with
    | some d, some (.mp kvs) => match keyKind d && Nat.ble S.lim id, findAV d k kvs 0 with
      | true, some (some (i, _)) => some (S.set id (.mp (kvs.set i (k, v))))
      | true, some none => some (S.set id (.mp (kvs ++ [(k, v)])))
      | _, _ => none
    | _, _ => none
  | _, _ => none

theorem kEq_same {g : Gh} {d : TypeDesc} {a b : AV} {x y : Value} (h : kEq d a b = some true) (ha : VR g a x) (hb : VR g b y) : Instr.sameBits 10000 y x = true := by
  unfold kEq at h
  split at h <;> try (simp at h; done)
  · cases ha with | sc _ => ?_
    cases hb with | sc _ => ?_
    split at h <;> simp only [Option.some.injEq, reduceCtorEq] at h
    rename_i hk; subst hk; simp at h; subst h; simp [Instr.sameBits]
  · cases ha with | sc _ => ?_
    cases hb with | sc _ => ?_
    rename_i xs ys _ _
    simp only [Option.some.injEq] at h
    have : (ys == xs) = true := by rw [beq_toListBytes, ByteArray.toList_eq, ByteArray.toList_eq]; simp at h ⊢; exact h.symm
    simpa [Instr.sameBits] using this
  · cases ha with | sc _ => ?_
    cases hb with | sc _ => ?_
    simp at h; subst h; simp [Instr.sameBits]

theorem updateAV_sound {P : Program} {S S' : Sto} {g : Gh} {w : World} (hi : Inv S g w) {t : TypeId} {m k v : AV} {x y z : Value} (h : updateAV P S t m k v = some S') (hm : VR g m x) (hk : VR g k y) (hv : VR g v z) :
    ∃ w', (Instr.mapUpdate t x y z).run P w = .ok () w' ∧ Inv S' g w' ∧ Ext S g w S' g w' := by
  unfold updateAV at h
  split at h <;> try (simp at h; done)
  rename_i kt et id hu
  split at h <;> try (simp at h; done)
  rename_i d kvs hd hg
  cases hm with
  | mapr hl =>
    rename_i l
    obtain ⟨l', q1, q2, q3⟩ := hi.ob _ _ hg
    rw [hl] at q1; simp only [Option.some.injEq] at q1; subst q1
    obtain ⟨es, ck, p1, p2, p3, p4, p5⟩ := q3
    have p3' : ∀ (j : Nat) (kv : AV × AV) (e : MapEntry), kvs[j]? = some kv → es.toList[j]? = some e → VR g kv.1 e.key ∧ VR g kv.2 e.val := fun j kv e a b => p3 j kv e a (by simpa using b)
    have hlt := (Array.getElem?_eq_some_iff.1 p1).1
    have hset : ∀ (o : Obj) (k : Nat), k ≠ l.blk → (w.heap.setIfInBounds l.blk o)[k]? = w.heap[k]? := by
      intro o k hk; rw [Array.getElem?_setIfInBounds, if_neg (Ne.symm hk)]
    have hget : ∀ o : Obj, (w.heap.setIfInBounds l.blk o)[l.blk]? = some o := by
      intro o; rw [Array.getElem?_setIfInBounds, if_pos rfl, if_pos hlt]
    split at h <;> try (simp at h; done)
    · rename_i i v0 hkk hf
      simp only [Bool.and_eq_true] at hkk
      simp only [Option.some.injEq] at h; subst h
      obtain ⟨q, r1, r2⟩ := findAV_sound hk hf (by simpa using p2) p3'
      cases q with
      | none => exact r2.elim
      | some qv =>
        obtain ⟨j', y'⟩ := qv
        obtain ⟨rfl, a2, a3, a4, kv, e, a5, a6, a7⟩ := r2
        simp only [Nat.sub_zero] at a5 a6
        have a6' : es[i]? = some e := by simpa using a6
        have hsame := kEq_same a7 hk (p3 i kv e a5 a6').1
        refine ⟨{ w with heap := w.heap.setIfInBounds l.blk (.map (es.modify i fun e => { e with key := y, val := z }) ck) }, ?_, ?_⟩
        · simp only [Instr.mapUpdate, Sem.run_bind, run_underlying' hu, Result.andThen_ok, getObj, Sem.run, p1, run_checkKey hd hkk.1, run_findKey hd r1, a6', Option.map_some, Option.getD_some, Instr.keyThatStays, hsame, if_true, Sem.run_pure, setObj]
        · refine hi.upd hg (Nat.le_of_ble_eq_true hkk.2) hl (by simp) (hget _) (hset _) rfl rfl rfl ⟨_, ck, rfl, by simp [p2], ?_, by simpa using p4, fun j e' b2 => by
            rw [Array.getElem?_modify] at b2
            by_cases hj : i = j
            · subst hj
              rw [if_pos rfl, a6'] at b2
              simp only [Option.map_some, Option.some.injEq] at b2
              subst b2; exact p5 i e a6'
            · rw [if_neg hj] at b2
              exact p5 j e' b2⟩
          intro j kv' e' b1 b2
          rw [Array.getElem?_modify] at b2
          rw [List.getElem?_set] at b1
          by_cases hj : i = j
          · subst hj
            rw [if_pos rfl, a6'] at b2
            rw [if_pos rfl, if_pos (by omega)] at b1
            simp only [Option.map_some, Option.some.injEq] at b1 b2
            subst b1; subst b2; exact ⟨hk, hv⟩
          · rw [if_neg hj] at b1 b2
            exact p3 j kv' e' b1 b2
    · rename_i hkk hf
      simp only [Bool.and_eq_true] at hkk
      simp only [Option.some.injEq] at h; subst h
      obtain ⟨q, r1, r2⟩ := findAV_sound hk hf (by simpa using p2) p3'
      cases q with
      | some qv => exact r2.elim
      | none =>
        refine ⟨{ w with heap := w.heap.setIfInBounds l.blk (.map (es.push { key := y, val := z, born := ck }) (ck + 1)) }, ?_, ?_⟩
        · simp only [Instr.mapUpdate, Sem.run_bind, run_underlying' hu, Result.andThen_ok, getObj, Sem.run, p1, run_checkKey hd hkk.1, run_findKey hd r1, setObj]
        · refine hi.upd hg (Nat.le_of_ble_eq_true hkk.2) hl (by simp) (hget _) (hset _) rfl rfl rfl ⟨_, ck + 1, rfl, by simp [p2], ?_, by simp [p4], fun j e' b2 => by
            rw [Array.getElem?_push] at b2
            by_cases hj : j = es.size
            · subst hj
              rw [if_pos rfl] at b2
              simp only [Option.some.injEq] at b2
              subst b2; exact p4
            · rw [if_neg hj] at b2
              exact p5 j e' b2⟩
          intro j kv' e' b1 b2
          rw [Array.getElem?_push] at b2
          by_cases hj : j = es.size
          · subst hj
            rw [if_pos rfl] at b2
            rw [p2, List.getElem?_append_right (Nat.le_refl _)] at b1
            simp at b1 b2
            subst b1; subst b2; exact ⟨hk, hv⟩
          · rw [if_neg hj] at b2
            have : j < kvs.length := by rw [← p2]; exact (Array.getElem?_eq_some_iff.1 b2).1
            rw [List.getElem?_append_left this] at b1
            exact p3 j kv' e' b1 b2

def makeMapAV (S : Sto) : Option (AV × Sto) :=
  match Nat.ble (S.nx + 1) 8192 && Nat.ble S.lim S.nx with
  | true => some (.mapr S.nx, S.add (.mp []))
  | false => none
theorem makeMapAV_sound {P : Program} {S S' : Sto} {g : Gh} {w : World} (hi : Inv S g w) {t : TypeId} {r : AV} (h : makeMapAV S = some (r, S')) :
    ∃ z w' g', (Instr.makeMap t none).run P w = .ok z w' ∧ VR g' r z ∧ Inv S' g' w' ∧ Ext S g w S' g' w' := by
  unfold makeMapAV at h
  split at h <;> simp only [Option.some.injEq, Prod.mk.injEq, reduceCtorEq] at h
  rename_i hb
  obtain ⟨rfl, rfl⟩ := h
  simp only [Bool.and_eq_true] at hb
  have c2 := Nat.le_of_ble_eq_true hb.1
  have c3 := Nat.le_of_ble_eq_true hb.2
  obtain ⟨q1, q2⟩ := hi.alloc (w' := w.alloc (.map #[] 0)) (by omega) (o := .mp []) (ob := .map #[] 0) (l := ⟨w.heap.size, 0, 0, 0⟩) rfl ⟨#[], 0, rfl, rfl, by simp, rfl, by simp⟩ rfl rfl rfl rfl c3
  exact ⟨.map (some w.heap.size), _, _, by simp [Instr.makeMap], VR.mapr (l := ⟨w.heap.size, 0, 0, 0⟩) (Gh.add_same _ _ _), q1, q2⟩

/- Iterators over strings. -/
def rangeAV (P : Program) (S : Sto) (t : TypeId) (x : AV) : Option (AV × Sto) :=
  match P.underlying t, x with
  | some .string, .sc (.string s) => match Nat.ble (S.nx + 1) 8192 && Nat.ble S.lim S.nx with
    | true => some (.ptr S.nx 0 0, S.add (.si s 0))
    | false => none
  | some (.map _ _), .sc (.map none) => match Nat.ble (S.nx + 1) 8192 && Nat.ble S.lim S.nx with
    | true => some (.ptr S.nx 0 0, S.add .mz)
    | false => none
  | some (.map _ _), .mapr id => match S.get id, Nat.ble (S.nx + 1) 8192 && Nat.ble S.lim S.nx with
    | some (.mp kvs), true => some (.ptr S.nx 0 0, S.add (.mi id kvs.length []))
    | _, _ => none
  | _, _ => none
theorem rangeAV_sound {P : Program} {S S' : Sto} {g : Gh} {w : World} (hi : Inv S g w) {t : TypeId} {x r : AV} {y : Value} (h : rangeAV P S t x = some (r, S')) (hv : VR g x y) :
    ∃ z w' g', (Instr.range t y).run P w = .ok z w' ∧ VR g' r z ∧ Inv S' g' w' ∧ Ext S g w S' g' w' := by
  unfold rangeAV at h
  split at h <;> try (simp at h; done)
  · rename_i s hu
    split at h <;> simp only [Option.some.injEq, Prod.mk.injEq, reduceCtorEq] at h
    rename_i hb
    obtain ⟨rfl, rfl⟩ := h
    simp only [Bool.and_eq_true] at hb
    have c2 := Nat.le_of_ble_eq_true hb.1
    have c3 := Nat.le_of_ble_eq_true hb.2
    cases hv with | sc _ => ?_
    obtain ⟨q1, q2⟩ := hi.alloc (w' := w.alloc (.stringIter s 0)) (by omega) (o := .si s 0) (ob := .stringIter s 0) (l := ⟨w.heap.size, 0, 0, 0⟩) rfl ⟨rfl, rfl⟩ rfl rfl rfl rfl c3
    exact ⟨.pointer (some ⟨w.heap.size, 0, none⟩), _, _, by simp [Instr.range, run_underlying' hu], by simpa using VR.ptr (i := 0) (j := 0) (l := ⟨w.heap.size, 0, 0, 0⟩) (Gh.add_same g S.nx _), q1, q2⟩
  · rename_i hu
    split at h <;> simp only [Option.some.injEq, Prod.mk.injEq, reduceCtorEq] at h
    rename_i hb
    obtain ⟨rfl, rfl⟩ := h
    simp only [Bool.and_eq_true] at hb
    have c2 := Nat.le_of_ble_eq_true hb.1
    have c3 := Nat.le_of_ble_eq_true hb.2
    cases hv with | sc _ => ?_
    obtain ⟨q1, q2⟩ := hi.alloc (w' := w.alloc (.mapIter none 0 #[] 0)) (by omega) (o := .mz) (ob := .mapIter none 0 #[] 0) (l := ⟨w.heap.size, 0, 0, 0⟩) rfl ⟨0, #[], 0, rfl, rfl⟩ rfl rfl rfl rfl c3
    exact ⟨.pointer (some ⟨w.heap.size, 0, none⟩), _, _, by simp [Instr.range, run_underlying' hu], by simpa using VR.ptr (i := 0) (j := 0) (l := ⟨w.heap.size, 0, 0, 0⟩) (Gh.add_same g S.nx _), q1, q2⟩
  · rename_i id hu
    split at h <;> simp only [Option.some.injEq, Prod.mk.injEq, reduceCtorEq] at h
    rename_i kvs hg hb
    obtain ⟨rfl, rfl⟩ := h
    simp only [Bool.and_eq_true] at hb
    have c2 := Nat.le_of_ble_eq_true hb.1
    have c3 := Nat.le_of_ble_eq_true hb.2
    cases hv with | mapr hl => ?_
    rename_i lm
    obtain ⟨l', a1, a2, a3⟩ := hi.ob _ _ hg
    rw [hl] at a1; simp only [Option.some.injEq] at a1; subst a1
    obtain ⟨es, ck, p1, p2, p3, p4, p5⟩ := a3
    obtain ⟨q1, q2⟩ := hi.alloc (w' := w.alloc (.mapIter (some lm.blk) ck #[] ck)) (by omega) (o := .mi id kvs.length []) (ob := .mapIter (some lm.blk) ck #[] ck) (l := ⟨w.heap.size, 0, 0, 0⟩) rfl ⟨lm, hl, by rw [p4, p2], rfl⟩ rfl rfl rfl rfl c3
    exact ⟨.pointer (some ⟨w.heap.size, 0, none⟩), _, _, by simp [Instr.range, run_underlying' hu, getObj, Sem.run, p1], by simpa using VR.ptr (i := 0) (j := 0) (l := ⟨w.heap.size, 0, 0, 0⟩) (Gh.add_same g S.nx _), q1, q2⟩

def nextAV (S : Sto) (it : AV) (isString : Bool) : Option (AV × Sto) :=
  match it, isString with
  | .ptr id 0 0, true => match S.get id with
    | some (.si s p) => match Nat.ble (p + 1) s.size, Nat.ble S.lim id with
      | true, true => some (.tup [.sc (.bool true), .sc (.int .i64 p), .sc (.int .i32 (Utf8.decode s p).1)], S.set id (.si s (p + (Utf8.decode s p).2)))
      | false, _ => some (.tup [.sc (.bool false)], S)
      | _, _ => none
    | _ => none
  | _, _ => none
theorem VRs.three {g : Gh} {a b c : AV} {x y z : Value} (h : VR g a x) (h' : VR g b y) (h'' : VR g c z) : VRs g [a, b, c] #[x, y, z] := VRs.cons (xs := [y, z]) h (VRs.two h' h'')

theorem nextAV_sound {P : Program} {S S' : Sto} {g : Gh} {w : World} (hi : Inv S g w) {it r : AV} {x : Value} {b : Bool} {t : TypeId} (h : nextAV S it b = some (r, S')) (hv : VR g it x) :
    ∃ z w', (Instr.next x b t).run P w = .ok z w' ∧ VR g r z ∧ Inv S' g w' ∧ Ext S g w S' g w' := by
  unfold nextAV at h
  split at h <;> try (simp at h; done)
  rename_i id
  split at h <;> try (simp at h; done)
  rename_i s p hg
  cases hv with
  | ptr hl =>
    rename_i l
    obtain ⟨l', q1, q2, q3⟩ := hi.ob _ _ hg
    rw [hl] at q1; simp only [Option.some.injEq] at q1; subst q1
    obtain ⟨q3, hb0⟩ : w.heap[l.blk]? = some (.stringIter s p) ∧ l.base = 0 := q3
    have hlt := (Array.getElem?_eq_some_iff.1 q3).1
    have e0 : l.base + 0 * l.sz + 0 = 0 := by rw [hb0]; simp
    rw [e0]
    split at h <;> simp only [Option.some.injEq, Prod.mk.injEq, reduceCtorEq] at h
    · rename_i h1 h2
      have h1 := Nat.le_of_ble_eq_true h1
      have h2 := Nat.le_of_ble_eq_true h2
      obtain ⟨rfl, rfl⟩ := h
      have h3 : VRs g [.sc (.bool true), .sc (.int .i64 p), .sc (.int .i32 (Utf8.decode s p).1)] #[.bool true, .int .i64 p, .int .i32 (Utf8.decode s p).1] := VRs.three (.sc rfl) (.sc rfl) (.sc rfl)
      refine ⟨_, { w with heap := w.heap.setIfInBounds l.blk (.stringIter s (p + (Utf8.decode s p).2)) }, ?_, .tup h3.1 h3.2, ?_⟩
      · simp only [Instr.next, Sem.run_bind, Result.andThen_ok, getObj, Sem.run, q3]
        rw [if_pos (by omega)]
        simp [setObj, Sem.run, q3, goInt]
      · refine hi.upd hg h2 hl (by simp) ?_ ?_ rfl rfl rfl ⟨rfl, hb0⟩
        · show (w.heap.setIfInBounds l.blk _)[l.blk]? = _
          rw [Array.getElem?_setIfInBounds, if_pos rfl, if_pos hlt]
        · intro k hk
          show (w.heap.setIfInBounds l.blk _)[k]? = _
          rw [Array.getElem?_setIfInBounds, if_neg (Ne.symm hk)]
    · rename_i h1
      have h1 : ¬ p < s.size := by intro h'; rw [Nat.ble_eq_true_of_le h'] at h1; simp at h1
      obtain ⟨rfl, rfl⟩ := h
      refine ⟨.tuple #[.bool false], w, ?_, .tup (VRs.cons (xs := []) (g := g) (a := .sc (.bool false)) (.sc rfl) (VRs.nil g)).1 (VRs.cons (xs := []) (g := g) (a := .sc (.bool false)) (.sc rfl) (VRs.nil g)).2, hi, Ext.refl _ _ _⟩
      simp only [Instr.next, Sem.run_bind, Result.andThen_ok, getObj, Sem.run, q3]
      rw [if_neg h1]
      simp

/- Iterators over maps: all that may come next. -/
def inN (i : Nat) : List Nat → Bool
  | [] => false
  | j :: r => match Nat.beq i j with
    | true => true
    | false => inN i r
def leftKV (seen : List Nat) : List (AV × AV) → Nat → List (Nat × AV × AV)
  | [], _ => []
  | (k, v) :: r, i => match inN i seen with
    | true => leftKV seen r (i + 1)
    | false => (i, k, v) :: leftKV seen r (i + 1)
def nextL (S : Sto) (id m since : Nat) (seen : List Nat) : List (Nat × AV × AV) → List (AV × Sto)
  | [] => []
  | (i, k, v) :: r => (.tup [.sc (.bool true), k, v], S.set id (.mi m since (seen ++ [i]))) :: nextL S id m since seen r
def nextO (S : Sto) (id m since : Nat) (seen : List Nat) : List (Nat × AV × AV) → List (AV × Sto)
  | [] => [(.tup [.sc (.bool false)], S)]
  | l => nextL S id m since seen l
def nextC (S : Sto) (it : AV) : Option (List (AV × Sto)) :=
  match it with
  | .ptr id 0 0 => match S.get id with
    | some .mz => some [(.tup [.sc (.bool false)], S)]
    | some (.mi m since seen) => match S.get m with
      | some (.mp kvs) => match Nat.beq since kvs.length, Nat.ble S.lim id with
        | true, true => some (nextO S id m since seen (leftKV seen kvs 0))
        | _, _ => none
      | _ => none
    | _ => none
  | _ => none

theorem inN_iff {i : Nat} : ∀ {l : List Nat}, inN i l = true ↔ i ∈ l := by
  intro l
  induction l with
  | nil => simp [inN]
  | cons j r ih =>
    simp only [inN, List.mem_cons]
    cases hb : Nat.beq i j with
    | true => simp [Nat.eq_of_beq_eq_true hb]
    | false =>
      have : i ≠ j := by rintro rfl; rw [Nat.beq_refl] at hb; simp at hb
      simp [this, ih]
theorem leftKV_iff {seen : List Nat} : ∀ {kvs : List (AV × AV)} {n i : Nat} {k v : AV}, (i, k, v) ∈ leftKV seen kvs n ↔ n ≤ i ∧ kvs[i - n]? = some (k, v) ∧ i ∉ seen := by
  intro kvs
  induction kvs with
  | nil => intro n i k v; simp [leftKV]
  | cons kv r ih =>
    obtain ⟨a, b⟩ := kv
    intro n i k v
    have tail : ((n + 1 ≤ i ∧ r[i - (n + 1)]? = some (k, v) ∧ i ∉ seen) ∨ (i = n ∧ a = k ∧ b = v ∧ n ∉ seen)) ↔ (n ≤ i ∧ ((a, b) :: r)[i - n]? = some (k, v) ∧ i ∉ seen) := by
      constructor
      · rintro (⟨p, q, s⟩ | ⟨rfl, rfl, rfl, s⟩)
        · refine ⟨by omega, ?_, s⟩
          rw [show i - n = (i - (n + 1)) + 1 from by omega, List.getElem?_cons_succ]; exact q
        · exact ⟨Nat.le_refl _, by simp, s⟩
      · rintro ⟨p, q, s⟩
        by_cases e : i = n
        · subst e; simp at q; exact .inr ⟨rfl, q.1, q.2, s⟩
        · rw [show i - n = (i - (n + 1)) + 1 from by omega, List.getElem?_cons_succ] at q
          exact .inl ⟨by omega, q, s⟩
    rw [← tail]
    simp only [leftKV]
    cases hb : inN n seen with
    | true =>
      have hs := inN_iff.1 hb
      simp only [ih]
      constructor
      · exact .inl
      · rintro (q | ⟨_, _, _, s⟩)
        · exact q
        · exact absurd hs s
    | false =>
      have hs : n ∉ seen := fun e => by rw [inN_iff.2 e] at hb; simp at hb
      simp only [List.mem_cons, Prod.mk.injEq, ih]
      constructor
      · rintro (⟨rfl, rfl, rfl⟩ | q)
        · exact .inr ⟨rfl, rfl, rfl, hs⟩
        · exact .inl q
      · rintro (q | ⟨rfl, rfl, rfl, _⟩)
        · exact .inr q
        · exact .inl ⟨rfl, rfl, rfl⟩
theorem nextL_of {S : Sto} {id m since : Nat} {seen : List Nat} : ∀ {l : List (Nat × AV × AV)} {i : Nat} {k v : AV}, (i, k, v) ∈ l → (AV.tup [.sc (.bool true), k, v], S.set id (.mi m since (seen ++ [i]))) ∈ nextL S id m since seen l := by
  intro l
  induction l with
  | nil => intro i k v h; simp at h
  | cons p r ih =>
    obtain ⟨j, a, b⟩ := p
    intro i k v h
    rcases List.mem_cons.1 h with e | h
    · simp only [Prod.mk.injEq] at e
      obtain ⟨rfl, rfl, rfl⟩ := e
      exact List.mem_cons_self ..
    · exact List.mem_cons_of_mem _ (ih h)

theorem run_choose_map {P : Program} (w : World) {n : Nat} (hn : 0 < n) : ∃ c w', (choose (.mapNext n)).run P w = .ok c w' ∧ c < n ∧ w'.heap = w.heap ∧ w'.os = w.os ∧ w'.tape = w.tape ∧ w'.output = w.output := by
  by_cases h : n ≤ 1
  · exact ⟨0, w, by simp [choose, Sem.run, Question.forced, h], hn, rfl, rfl, rfl, rfl⟩
  · exact ⟨w.tape w.drawn (.mapNext n) % n, { w with drawn := w.drawn + 1 }, by simp [choose, Sem.run, Question.forced, h, Question.cut], Nat.mod_lt _ hn, rfl, rfl, rfl, rfl⟩

theorem nextC_sound {P : Program} {S : Sto} {g : Gh} {w : World} (hi : Inv S g w) {it : AV} {x : Value} {l : List (AV × Sto)} {t : TypeId} (h : nextC S it = some l) (hv : VR g it x) :
    ∃ r S' z w', (r, S') ∈ l ∧ (Instr.next x false t).run P w = .ok z w' ∧ VR g r z ∧ Inv S' g w' ∧ Ext S g w S' g w' := by
  have hf1 : VRs g [.sc (.bool false)] #[.bool false] := VRs.cons (xs := []) (.sc rfl) (VRs.nil g)
  unfold nextC at h
  split at h <;> try (simp at h; done)
  rename_i id
  cases hv with | ptr hl => ?_
  rename_i lo
  split at h <;> try (simp at h; done)
  · rename_i hg
    simp only [Option.some.injEq] at h; subst h
    obtain ⟨l', q1, q2, q3⟩ := hi.ob _ _ hg
    rw [hl] at q1; simp only [Option.some.injEq] at q1; subst q1
    obtain ⟨a, b, c, q3, hb0⟩ := q3
    refine ⟨_, _, .tuple #[.bool false], w, List.mem_cons_self .., ?_, .tup hf1.1 hf1.2, hi, Ext.refl _ _ _⟩
    rw [show lo.base + 0 * lo.sz + 0 = 0 from by rw [hb0]; simp]
    simp [Instr.next, getObj, Sem.run, q3]
  · rename_i m since seen hg
    split at h <;> try (simp at h; done)
    rename_i kvs hgm
    split at h <;> simp only [Option.some.injEq, reduceCtorEq] at h
    rename_i hs hlim
    have hs := Nat.eq_of_beq_eq_true hs
    have hlim := Nat.le_of_ble_eq_true hlim
    subst h
    obtain ⟨l', q1, q2, q3⟩ := hi.ob _ _ hg
    rw [hl] at q1; simp only [Option.some.injEq] at q1; subst q1
    obtain ⟨lm, m1, m2, hb0⟩ := q3
    obtain ⟨l', n1, n2, n3⟩ := hi.ob _ _ hgm
    rw [m1] at n1; simp only [Option.some.injEq] at n1; subst n1
    obtain ⟨es, ck, p1, p2, p3, p4, p5⟩ := n3
    have hlt := (Array.getElem?_eq_some_iff.1 m2).1
    rw [show lo.base + 0 * lo.sz + 0 = 0 from by rw [hb0]; simp]
    have hcond : (!seen.toArray.isEmpty && !es.isEmpty && es.all fun e => decide (e.born ≥ since)) = false := by
      rw [Bool.eq_false_iff]
      intro hc
      simp only [Bool.and_eq_true, Bool.not_eq_true'] at hc
      obtain ⟨⟨_, c2⟩, c3⟩ := hc
      have hpos : 0 < es.size := by
        rcases Nat.eq_zero_or_pos es.size with e | e
        · simp [Array.isEmpty, e] at c2
        · exact e
      have := (Array.all_eq_true.1 c3) 0 hpos
      simp only [ge_iff_le, decide_eq_true_eq] at this
      have hb := p5 0 es[0] (Array.getElem?_eq_getElem hpos)
      omega
    obtain ⟨left, hleft⟩ : ∃ x, x = es.filter fun e => !seen.toArray.contains e.born := ⟨_, rfl⟩
    have hin : ∀ e, e ∈ left → ∃ i, es[i]? = some e ∧ i ∉ seen := by
      intro e he
      rw [hleft, Array.mem_filter] at he
      obtain ⟨i, hi', he'⟩ := Array.mem_iff_getElem.1 he.1
      have hsome : es[i]? = some e := by rw [Array.getElem?_eq_getElem hi', he']
      refine ⟨i, hsome, fun hc => ?_⟩
      have := he.2
      rw [p5 i e hsome] at this
      simp [hc] at this
    have hall : ∀ i e, es[i]? = some e → i ∉ seen → e ∈ left := by
      intro i e he hn
      rw [hleft, Array.mem_filter]
      refine ⟨Array.mem_of_getElem? he, ?_⟩
      rw [p5 i e he]
      simp [hn]
    have hold : left.filter (fun e => decide (e.born < since)) = left := by
      rw [Array.filter_eq_self]
      intro e he
      obtain ⟨i, h1, _⟩ := hin e he
      have := (Array.getElem?_eq_some_iff.1 h1).1
      rw [p5 i e h1]
      simp only [decide_eq_true_eq]; omega
    have hnew : left.filter (fun e => decide (e.born ≥ since)) = #[] := by
      rw [Array.filter_eq_empty_iff]
      intro e he
      obtain ⟨i, h1, _⟩ := hin e he
      have := (Array.getElem?_eq_some_iff.1 h1).1
      rw [p5 i e h1]
      simp only [decide_eq_true_eq]; omega
    obtain ⟨cand, hcand⟩ : ∃ x, x = (if left.isEmpty then #[none] else #[]) ++ (left ++ #[]).map some := ⟨_, rfl⟩
    have hsz : 0 < cand.size := by
      rw [hcand]
      cases he : left.isEmpty with
      | true => simp; omega
      | false =>
        have : left.size ≠ 0 := by intro e; simp [Array.isEmpty, e] at he
        simp; omega
    obtain ⟨c, w1, r1, r2, r3, r4, r5, r6⟩ := run_choose_map (P := P) w hsz
    have hrun : (Instr.next (.pointer (some ⟨lo.blk, 0, none⟩)) false t).run P w = (match cand[c]? with
        | some (some e) => (do setObj lo.blk (.mapIter (some lm.blk) since (seen.toArray.push e.born) ck); pure (.tuple #[.bool true, e.key, e.val]) : Sem Value)
        | some none => pure (.tuple #[.bool false])
        | none => stuck "Next: no such candidate").run P w1 := by
      simp only [Instr.next, Sem.run_bind, getObj, Sem.run, m2, Result.andThen_ok, p1, hcond, Bool.false_eq_true, if_false, ← hleft, hold, hnew, ← hcand, r1]
      rfl
    rw [hrun]
    have hi1 : Inv S g w1 := hi.world r3
    have he1 : Ext S g w S g w1 := Ext.world r3 r4 r5 r6
    have hget : cand[c]? = some cand[c] := Array.getElem?_eq_getElem r2
    cases hc : cand[c] with
    | none =>
      rw [hget, hc]
      have hemp : left.isEmpty = true := by
        cases he : left.isEmpty with
        | true => rfl
        | false =>
          exfalso
          rw [he] at hcand
          have hm : (none : Option MapEntry) ∈ cand := by rw [← hc]; exact Array.getElem_mem _
          rw [hcand] at hm
          simp at hm
      have hlk : leftKV seen kvs 0 = [] := by
        rw [List.eq_nil_iff_forall_not_mem]
        rintro ⟨i, k, v⟩ hm
        obtain ⟨_, a, b⟩ := leftKV_iff.1 hm
        simp only [Nat.sub_zero] at a
        have hlen : i < es.size := by rw [p2]; exact (List.getElem?_eq_some_iff.1 a).1
        have := hall i es[i] (Array.getElem?_eq_getElem hlen) b
        have hl0 : left = #[] := by simpa using hemp
        rw [hl0] at this
        simp at this
      refine ⟨.tup [.sc (.bool false)], S, .tuple #[.bool false], w1, ?_, by simp, .tup hf1.1 hf1.2, hi1, he1⟩
      rw [hlk]; exact List.mem_cons_self ..
    | some e =>
      rw [hget, hc]
      have hm : e ∈ left := by
        have hm : some e ∈ cand := by rw [← hc]; exact Array.getElem_mem _
        rw [hcand] at hm
        cases he : left.isEmpty with
        | true =>
          rw [he] at hm
          have hl0 : left = #[] := by simpa using he
          rw [hl0] at hm
          simp at hm
        | false => rw [he] at hm; simpa using hm
      obtain ⟨i, h1, h2⟩ := hin e hm
      have hilt : i < kvs.length := by rw [← p2]; exact (Array.getElem?_eq_some_iff.1 h1).1
      have hkv : kvs[i]? = some kvs[i] := List.getElem?_eq_getElem hilt
      obtain ⟨v1, v2⟩ := p3 i _ e hkv h1
      have hmem : (i, kvs[i].1, kvs[i].2) ∈ leftKV seen kvs 0 := leftKV_iff.2 ⟨Nat.zero_le _, by rw [Nat.sub_zero]; exact hkv, h2⟩
      have hlt1 : lo.blk < w1.heap.size := by rw [r3]; exact hlt
      have h3 : VRs g [.sc (.bool true), kvs[i].1, kvs[i].2] #[.bool true, e.key, e.val] := VRs.three (.sc rfl) v1 v2
      have hb := p5 i e h1
      obtain ⟨u1, u2⟩ := hi1.upd (w' := { w1 with heap := w1.heap.setIfInBounds lo.blk (.mapIter (some lm.blk) since (seen.toArray.push e.born) ck) }) (ob' := .mapIter (some lm.blk) since (seen.toArray.push e.born) ck) (o' := .mi m since (seen ++ [i])) hg hlim hl (by simp)
        (by show (w1.heap.setIfInBounds lo.blk _)[lo.blk]? = _; rw [Array.getElem?_setIfInBounds, if_pos rfl, if_pos hlt1])
        (by intro k hk; show (w1.heap.setIfInBounds lo.blk _)[k]? = _; rw [Array.getElem?_setIfInBounds, if_neg (Ne.symm hk)]) rfl rfl rfl
        ⟨lm, m1, by rw [hb, p4, p2, ← hs]; simp, hb0⟩
      refine ⟨_, _, .tuple #[.bool true, e.key, e.val], _, ?_, ?_, .tup h3.1 h3.2, u1, he1.trans u2⟩
      · have : nextO S id m since seen (leftKV seen kvs 0) = nextL S id m since seen (leftKV seen kvs 0) := by
          cases hq : leftKV seen kvs 0 with
          | nil => rw [hq] at hmem; simp at hmem
          | cons a b => rfl
        rw [this]
        exact nextL_of hmem
      · simp [setObj, Sem.run, show w1.heap[lo.blk]? = some (Obj.mapIter (some lm.blk) since seen.toArray since) from by rw [r3]; exact m2]

/- The entry at which an iterator stands. -/
def lastN : List Nat → Option Nat
  | [] => none
  | [i] => some i
  | _ :: r => lastN r
def entryAV (S : Sto) (it : AV) : Option AV :=
  match it with
  | .ptr id 0 0 => match S.get id with
    | some (.mi m since seen) => match S.get m, lastN seen with
      | some (.mp kvs), some i => match Nat.beq since kvs.length, nth kvs i with
        | true, some (k, v) => some (.tup [k, v])
        | _, _ => none
      | _, _ => none
    | _ => none
  | _ => none
theorem lastN_back : ∀ {l : List Nat} {i : Nat}, lastN l = some i → l.toArray.back? = some i := by
  intro l
  induction l with
  | nil => intro i h; simp [lastN] at h
  | cons a r ih =>
    intro i h
    cases r with
    | nil => simp only [lastN, Option.some.injEq] at h; subst h; rfl
    | cons b r =>
      have := ih (i := i) h
      simp only [List.back?_toArray] at this ⊢
      rw [List.getLast?_cons_cons]; exact this
theorem entryAV_sound {P : Program} {S : Sto} {g : Gh} {w : World} (hi : Inv S g w) {it r : AV} {x : Value} (h : entryAV S it = some r) (hv : VR g it x) : ∃ z, (Instr.entry x).run P w = .ok z w ∧ VR g r z := by
  unfold entryAV at h
  split at h <;> try (simp at h; done)
  rename_i id
  cases hv with | ptr hl => ?_
  rename_i lo
  split at h <;> try (simp at h; done)
  rename_i m since seen hg
  split at h <;> try (simp at h; done)
  rename_i kvs i hgm hlast
  split at h <;> simp only [Option.some.injEq, reduceCtorEq] at h
  rename_i k v hs hn
  have hs := Nat.eq_of_beq_eq_true hs
  rw [nth_eq] at hn
  subst h
  obtain ⟨l', q1, q2, q3⟩ := hi.ob _ _ hg
  rw [hl] at q1; simp only [Option.some.injEq] at q1; subst q1
  obtain ⟨lm, m1, m2, hb0⟩ := q3
  obtain ⟨l', n1, n2, n3⟩ := hi.ob _ _ hgm
  rw [m1] at n1; simp only [Option.some.injEq] at n1; subst n1
  obtain ⟨es, ck, p1, p2, p3, p4, p5⟩ := n3
  have hilt : i < es.size := by rw [p2]; exact (List.getElem?_eq_some_iff.1 hn).1
  have hei := Array.getElem?_eq_getElem hilt
  obtain ⟨v1, v2⟩ := p3 i _ _ hn hei
  have hfind : es.find? (fun e => e.born == i) = some es[i] := by
    cases hf : es.find? (fun e => e.born == i) with
    | none =>
      have := Array.find?_eq_none.1 hf es[i] (Array.getElem_mem _)
      rw [p5 i _ hei] at this; simp at this
    | some e =>
      have h1 := Array.find?_some hf
      have h2 := Array.mem_of_find?_eq_some hf
      obtain ⟨j, hj, hje⟩ := Array.mem_iff_getElem.1 h2
      have := p5 j e (by rw [Array.getElem?_eq_getElem hj, hje])
      have hij : e.born = i := by simpa using h1
      have : j = i := by omega
      subst this
      rw [hje]
  have h2 := VRs.two v1 v2
  refine ⟨.tuple #[es[i].key, es[i].val], ?_, .tup h2.1 h2.2⟩
  rw [show lo.base + 0 * lo.sz + 0 = 0 from by rw [hb0]; simp]
  simp only [Instr.entry, Sem.run_bind, getObj, Sem.run, m2, Result.andThen_ok, lastN_back hlast, p1, hfind]
  rw [if_neg (by rw [p4, p2, hs]; simp)]
  simp

/- Assertions of types. -/
def assertAV (P : Program) (t : TypeId) (x : AV) (ok : Bool) : Option AV :=
  match P.underlying t with
  | some (.interface _) => none
  | some _ => match x, ok with
    | .ifc u v, true => if u = t then some (.tup [v, .sc (.bool true)]) else
      match zeroAV P t with
      | some z => some (.tup [z, .sc (.bool false)])
      | none => none
    | .ifc u v, false => if u = t then some v else none
    | .sc .nilIface, true => match zeroAV P t with
      | some z => some (.tup [z, .sc (.bool false)])
      | none => none
    | _, _ => none
  | none => none
theorem assertAV_sound {P : Program} {w : World} {g : Gh} {xt t : TypeId} {x r : AV} {y : Value} {ok : Bool} (h : assertAV P t x ok = some r) (hv : VR g x y) : ∃ z, (Instr.typeAssert y xt t ok).run P w = .ok z w ∧ VR g r z := by
  unfold assertAV at h
  split at h <;> try (simp at h; done)
  rename_i d hd hu
  have key : ∀ u v, (Instr.typeAssert (.iface u v) xt t ok).run P w = (if u = t then (pure (if ok then .tuple #[v, .bool true] else v) : Sem Value) else
      (if ok then do pure (.tuple #[← zeroValue t, .bool false]) else runtimePanic (.typeAssertion (some xt) (some u) t ""))).run P w := by
    intro u v
    cases d <;> first | exact (hd _ rfl).elim | simp [Instr.typeAssert, run_underlying' hu]
  have keyn : ok = true → (Instr.typeAssert .nilIface xt t ok).run P w = (do pure (.tuple #[← zeroValue t, .bool false]) : Sem Value).run P w := by
    intro hok; subst hok
    cases d <;> first | exact (hd _ rfl).elim | simp [Instr.typeAssert, run_underlying' hu]
  split at h <;> try (simp at h; done)
  · rename_i u v
    cases hv with
    | ifc hv =>
      split at h
      · rename_i he
        simp only [Option.some.injEq] at h; subst h; subst he
        exact ⟨_, by rw [key]; simp, VR.two hv (.sc rfl)⟩
      · rename_i he
        split at h <;> simp only [Option.some.injEq, reduceCtorEq] at h
        rename_i z hz
        subst h
        obtain ⟨zc, hzr, hzv⟩ := zeroAV_sound (P := P) (w := w) (g := g) hz
        exact ⟨_, by rw [key]; simp [he, hzr], VR.two hzv (.sc rfl)⟩
  · rename_i u v
    cases hv with
    | ifc hv =>
      split at h <;> simp only [Option.some.injEq, reduceCtorEq] at h
      rename_i he
      subst h; subst he
      exact ⟨_, by rw [key]; simp, hv⟩
  · split at h <;> simp only [Option.some.injEq, reduceCtorEq] at h
    rename_i z hz
    subst h
    obtain ⟨zc, hzr, hzv⟩ := zeroAV_sound (P := P) (w := w) (g := g) hz
    cases hv with | sc _ => exact ⟨_, by rw [keyn rfl]; simp [hzr], VR.two hzv (.sc rfl)⟩

end
end Go.Eng
