/- Operations that make memory, or slices of it, on abstract values; no conditions. -/
import Derived.Test.YtdabbamabgfeoaaGreatEngC
namespace Go.Eng
noncomputable section

/- A slice of a slice. -/
def natAV : AV → Option Nat
  | .sc (.int _ (.ofNat k)) => some k
  | _ => none
theorem natAV_sound {g : Gh} {a : AV} {x : Value} {k : Nat} (h : natAV a = some k) (hv : VR g a x) : ∃ kk, x = .int kk (.ofNat k) := by
  unfold natAV at h
  split at h <;> simp only [Option.some.injEq, reduceCtorEq] at h
  subst h; cases hv with | sc _ => exact ⟨_, rfl⟩
def bnd (d : Nat) : Option AV → Option Nat
  | none => some d
  | some a => natAV a

def sliceAV (P : Program) (S : Sto) (t : TypeId) (a : AV) (lo hi : Option AV) : Option AV :=
  match P.underlying t with
  | some (.slice el) => match szT P el, a with
    | some n, .sref id off len => match bnd 0 lo, bnd len hi with
      | some l, some h => match Nat.ble l h && Nat.ble h len with
        | true => match S.get id with
          | some (.arr sz _) => match Nat.beq sz n with
            | true => some (.sref id (off + l) (h - l))
            | false => none
          | _ => none
        | false => none
      | _, _ => none
    | some n, .lit es => match bnd 0 lo, bnd es.length hi with
      | some l, some h => match Nat.ble l h && Nat.ble h es.length && es.all (fun e => Nat.beq e.cells.length n) with
        | true => some (.lit ((es.take h).drop l))
        | false => none
      | _, _ => none
    | some _, .nilS => match bnd 0 lo, bnd 0 hi with
      | some 0, some 0 => some .nilS
      | _, _ => none
    | some _, .nils => match bnd 0 lo, bnd 0 hi with
      | some 0, some 0 => some .nils
      | _, _ => none
    | _, _ => none
  | _ => none

theorem run_sliceBound {P : Program} {w : World} {k : IntKind} {n y : Nat} {c : BoundsCode} (h : n ≤ y) : (Instr.sliceBound (.int k (.ofNat n)) y c).run P w = .ok n w := by
  simp only [Instr.sliceBound, asIntOf, Sem.run_bind, Sem.run_pure, Result.andThen_ok]
  rw [if_pos (by constructor <;> simp; omega)]
  simp

theorem run_sliceBounds {P : Program} {w : World} {g : Gh} {len cap l h : Nat} {lo hi : Option AV} {lx hx : Option Value} (hl : bnd 0 lo = some l) (hh : bnd len hi = some h) (h1 : l ≤ h) (h2 : h ≤ cap)
    (rl : ∀ a x, lo = some a → lx = some x → VR g a x) (rh : ∀ a x, hi = some a → hx = some x → VR g a x) (el : lo.isSome = lx.isSome) (eh : hi.isSome = hx.isSome) :
    (Instr.sliceBounds true len cap lx hx none).run P w = .ok (l, h, cap) w := by
  have kh : (hx = none ∧ len = h) ∨ ∃ kk, hx = some (.int kk (.ofNat h)) := by
    cases hi with
    | none =>
      cases hx with
      | none => simp only [bnd, Option.some.injEq] at hh; exact .inl ⟨rfl, hh⟩
      | some x => simp at eh
    | some a =>
      cases hx with
      | none => simp at eh
      | some x => obtain ⟨kk, rfl⟩ := natAV_sound hh (rh a x rfl rfl); exact .inr ⟨kk, rfl⟩
  have kl : (lx = none ∧ 0 = l) ∨ ∃ kk, lx = some (.int kk (.ofNat l)) := by
    cases lo with
    | none =>
      cases lx with
      | none => simp only [bnd, Option.some.injEq] at hl; exact .inl ⟨rfl, hl⟩
      | some x => simp at el
    | some a =>
      cases lx with
      | none => simp at el
      | some x => obtain ⟨kk, rfl⟩ := natAV_sound hl (rl a x rfl rfl); exact .inr ⟨kk, rfl⟩
  rcases kh with ⟨rfl, rfl⟩ | ⟨kk, rfl⟩ <;> rcases kl with ⟨rfl, rfl⟩ | ⟨kk', rfl⟩ <;>
    simp only [Instr.sliceBounds, Sem.run_bind, Sem.run_pure, Result.andThen_ok, run_sliceBound h1, run_sliceBound h2]

theorem sliceAV_sound {P : Program} {S : Sto} {g : Gh} {w : World} (hi' : Inv S g w) {t : TypeId} {a r : AV} {lo hi : Option AV} {x : Value} {lx hx : Option Value} (h : sliceAV P S t a lo hi = some r) (ha : VR g a x)
    (rl : ∀ a x, lo = some a → lx = some x → VR g a x) (rh : ∀ a x, hi = some a → hx = some x → VR g a x) (el : lo.isSome = lx.isSome) (eh : hi.isSome = hx.isSome) :
    ∃ z, (Instr.sliceAt t x lx hx none).run P w = .ok z w ∧ VR g r z := by
  unfold sliceAV at h
  split at h <;> try (simp at h; done)
  rename_i elt hu
  have key : ∀ (b : Option Addr) (len cap l hh n : Nat), szT P elt = some n → bnd 0 lo = some l → bnd len hi = some hh → l ≤ hh → hh ≤ cap →
      (Instr.sliceAt t (.slice b len cap) lx hx none).run P w = .ok (.slice (if cap = l then b else b.map (·.add (l * n))) (hh - l) (cap - l)) w := by
    intro b len cap l hh n hn e1 e2 e3 e4
    simp only [Instr.sliceAt, Sem.run_bind, run_underlying' hu, Result.andThen_ok, Instr.slice]
    rw [run_sliceBounds e1 e2 e3 e4 rl rh el eh]
    simp [run_sizeOf hn]
  split at h <;> try (simp at h; done)
  · rename_i n id off len hn
    split at h <;> try (simp at h; done)
    rename_i l hh e1 e2
    split at h <;> try (simp at h; done)
    rename_i hc
    simp only [Bool.and_eq_true] at hc
    have c1 := Nat.le_of_ble_eq_true hc.1
    have c2 := Nat.le_of_ble_eq_true hc.2
    split at h <;> try (simp at h; done)
    rename_i sz es hg
    split at h <;> simp only [Option.some.injEq, reduceCtorEq] at h
    rename_i hsz
    have hsz := Nat.eq_of_beq_eq_true hsz
    subst h
    cases ha with
    | srefz =>
      have : l = 0 := by omega
      have hz : hh = 0 := by omega
      subst this; subst hz
      refine ⟨_, key _ 0 0 0 0 n hn e1 e2 (Nat.le_refl _) (Nat.le_refl _), ?_⟩
      simp only [if_true, Nat.sub_zero]
      exact .srefz
    | sref hl hcap hb =>
      rename_i cap lc
      obtain ⟨l', q1, q2, q3⟩ := hi'.ob _ _ hg
      rw [hl] at q1; simp only [Option.some.injEq] at q1; subst q1
      obtain ⟨c, t', p1, p2, p3, p4, p5, p6⟩ := q3
      refine ⟨_, key _ len cap l hh n hn e1 e2 c1 (by omega), ?_⟩
      by_cases hcl : cap = l
      · rw [if_pos hcl]
        have z1 : hh - l = 0 := by omega
        have z2 : cap - l = 0 := by omega
        rw [z1, z2]; exact .srefz
      · rw [if_neg hcl]
        simp only [Option.map_some, Addr.add_none]
        have : lc.base + off * lc.sz + l * n = lc.base + (off + l) * lc.sz := by rw [p3, hsz, Nat.add_mul]; omega
        rw [this]
        exact .sref hl (by omega) (by rw [show off + l + (cap - l) = off + cap from by omega]; exact hb)
  · rename_i n es hn
    split at h <;> try (simp at h; done)
    rename_i l hh e1 e2
    split at h <;> simp only [Option.some.injEq, reduceCtorEq] at h
    rename_i hc
    simp only [Bool.and_eq_true] at hc
    have c1 := Nat.le_of_ble_eq_true hc.1.1
    have c2 := Nat.le_of_ble_eq_true hc.1.2
    have c3 := List.all_eq_true.1 hc.2
    subst h
    have hlen : ((es.take hh).drop l).length = hh - l := by simp; omega
    cases ha with
    | lit0 =>
      simp only [List.length_nil] at e2 c2
      rename_i b cap
      have hz : hh = 0 := by omega
      have lz : l = 0 := by omega
      subst hz; subst lz
      exact ⟨_, key _ 0 cap 0 0 n hn e1 e2 (Nat.le_refl _) (Nat.zero_le _), by simp; exact .lit0⟩
    | lit hr hs hb hcap hcell =>
      rename_i b o sz cap c
      refine ⟨_, key _ es.length cap l hh n hn e1 e2 c1 (by omega), ?_⟩
      by_cases hz : (es.take hh).drop l = []
      · rw [hz]
        have : hh - l = 0 := by rw [← hlen, hz]; rfl
        rw [this]; exact .lit0
      · have hpos : l < hh := by
          rcases Nat.lt_or_ge l hh with k | k
          · exact k
          · exfalso; apply hz; apply List.eq_nil_of_length_eq_zero; rw [hlen]; omega
        have hsz : n = sz := by
          obtain ⟨e, he⟩ := List.exists_mem_of_ne_nil _ hz
          have he' : e ∈ es := List.mem_of_mem_take (List.mem_of_mem_drop he)
          rw [← hs e he', Nat.eq_of_beq_eq_true (c3 e he')]
        subst hsz
        rw [if_neg (by omega)]
        simp only [Option.map_some, Addr.add_none]
        rw [show hh - l = ((es.take hh).drop l).length from hlen.symm]
        refine .lit hr (sz := n) ?_ ?_ ?_ ?_
        · intro e he; exact hs e (List.mem_of_mem_take (List.mem_of_mem_drop he))
        · rw [hlen]
          have : l * n + (hh - l) * n ≤ es.length * n := by rw [← Nat.add_mul]; exact Nat.mul_le_mul_right _ (by omega)
          omega
        · rw [hlen]; omega
        · intro i j e aa y f1 f2 f3
          rw [List.getElem?_drop, List.getElem?_take] at f1
          split at f1
          · refine hcell (l + i) j e aa y f1 f2 ?_
            rw [← f3]; congr 1; rw [Nat.add_mul]; omega
          · simp at f1
  · rename_i n hn
    split at h <;> simp only [Option.some.injEq, reduceCtorEq] at h
    rename_i e1 e2
    subst h
    cases ha with | nilS => ?_
    exact ⟨_, key none 0 0 0 0 n hn e1 e2 (Nat.le_refl _) (Nat.le_refl _), by simp; exact .nilS⟩
  · rename_i n hn
    split at h <;> simp only [Option.some.injEq, reduceCtorEq] at h
    rename_i e1 e2
    subst h
    cases ha with | nils => ?_
    exact ⟨_, key _ 0 0 0 0 n hn e1 e2 (Nat.le_refl _) (Nat.le_refl _), by simp; exact .nils⟩

/- A slice as far as one of its elements, and no room behind it. -/
theorem Addr.add_none_zero (a : Addr) : a.add 0 = a := by
  obtain ⟨b, o, e⟩ := a
  cases e <;> simp [Addr.add]
def takeS : AV → Nat → Option AV
  | .sref id off len, h => match Nat.ble h len with
    | true => some (.sref id off h)
    | false => none
  | .lit es, h => match Nat.ble h es.length with
    | true => some (.lit (es.take h))
    | false => none
  | .nilS, 0 => some .nilS
  | .nils, 0 => some .nils
  | _, _ => none
theorem takeS_sound {g : Gh} {a r : AV} {x : Value} {h : Nat} (e : takeS a h = some r) (hv : VR g a x) : ∃ b n cap, x = .slice b n cap ∧ n ≤ cap ∧ h ≤ n ∧ VR g r (.slice b h cap) := by
  cases a with
  | sref id off len =>
    simp only [takeS] at e
    cases hle : Nat.ble h len with
    | false => rw [hle] at e; simp at e
    | true =>
      rw [hle] at e; simp only [Option.some.injEq] at e
      have hle := Nat.le_of_ble_eq_true hle
      subst e
      cases hv with
      | srefz =>
        have : h = 0 := by omega
        subst this
        exact ⟨_, _, _, rfl, Nat.le_refl _, Nat.le_refl _, .srefz⟩
      | sref hl hc hb => exact ⟨_, _, _, rfl, hc, hle, .sref hl (by omega) hb⟩
  | lit es =>
    simp only [takeS] at e
    cases hle : Nat.ble h es.length with
    | false => rw [hle] at e; simp at e
    | true =>
      rw [hle] at e; simp only [Option.some.injEq] at e
      have hle := Nat.le_of_ble_eq_true hle
      subst e
      cases hv with
      | lit0 =>
        have : h = 0 := by simpa using hle
        subst this
        exact ⟨_, _, _, rfl, Nat.zero_le _, Nat.le_refl _, by simpa using VR.lit0⟩
      | lit hr hs hb hcap hh =>
        rename_i b o sz cap c
        have hl : (es.take h).length = h := by simp; omega
        have key := VR.lit (g := g) (es := es.take h) (cap := cap) hr (sz := sz) (fun e he => hs e (List.mem_of_mem_take he)) (Nat.le_trans (Nat.add_le_add_left (Nat.mul_le_mul_right _ (by omega)) _) hb) (by omega)
          (fun i j e a x f1 f2 f3 => by
            rw [List.getElem?_take] at f1
            split at f1
            · exact hh i j e a x f1 f2 f3
            · simp at f1)
        rw [hl] at key
        exact ⟨_, _, _, rfl, hcap, hle, key⟩
  | nilS =>
    cases h with
    | zero =>
      simp only [takeS, Option.some.injEq] at e; subst e
      cases hv with | nilS => exact ⟨_, _, _, rfl, Nat.le_refl _, Nat.le_refl _, .nilS⟩
    | succ h => simp [takeS] at e
  | nils =>
    cases h with
    | zero =>
      simp only [takeS, Option.some.injEq] at e; subst e
      cases hv with | nils => exact ⟨_, _, _, rfl, Nat.le_refl _, Nat.le_refl _, .nils⟩
    | succ h => simp [takeS] at e
  | _ => simp [takeS] at e
def clipAV (P : Program) (t : TypeId) (a hi mx : AV) : Option AV :=
  match P.underlying t with
  | some (.slice el) => match szT P el, natAV hi, natAV mx with
    | some _, some h, some m => match Nat.beq h m with
      | true => match takeS a h with
        | some r => some (.clip r)
        | none => none
      | false => none
    | _, _, _ => none
  | _ => none
theorem clipAV_sound {P : Program} {g : Gh} {w : World} {t : TypeId} {a r hi mx : AV} {x hx mxx : Value} (h : clipAV P t a hi mx = some r) (ha : VR g a x) (rh : VR g hi hx) (rm : VR g mx mxx) :
    ∃ z, (Instr.sliceAt t x none (some hx) (some mxx)).run P w = .ok z w ∧ VR g r z := by
  unfold clipAV at h
  split at h <;> try (simp at h; done)
  rename_i elt hu
  split at h <;> try (simp at h; done)
  rename_i sz hh m hsz e1 e2
  split at h <;> try (simp at h; done)
  rename_i hc
  have c1 := Nat.eq_of_beq_eq_true hc
  subst c1
  split at h <;> simp only [Option.some.injEq, reduceCtorEq] at h
  rename_i r hr
  subst h
  obtain ⟨b, n, cap, rfl, hcap, hn, hvr⟩ := takeS_sound hr ha
  obtain ⟨k1, rfl⟩ := natAV_sound e1 rh
  obtain ⟨k2, rfl⟩ := natAV_sound e2 rm
  refine ⟨.slice b hh hh, ?_, .clip hvr⟩
  simp only [Instr.sliceAt, Sem.run_bind, run_underlying' hu, Result.andThen_ok, Instr.slice, Instr.sliceBounds, Sem.run_pure, run_sliceBound (Nat.le_trans hn hcap), run_sliceBound (Nat.le_refl hh), run_sizeOf hsz]
  cases b with
  | none => simp
  | some b => simp [Addr.add_none_zero]

end
end Go.Eng
