/- The check of a drawn region; no conditions. -/
import Derived.Test.YtdabbamabgfeoaaGreatEngS
import Derived.Test.YtdabbamabgfeoaaGreatEngN
namespace Go.Eng
noncomputable section

theorem tb_test (j : Nat) : ∀ m, tb m j = m.testBit j := by
  intro m
  unfold tb
  rw [Nat.testBit]
  have e1 : Nat.land (Nat.shiftRight m j) 1 = (m >>> j) &&& 1 := rfl
  rw [e1]
  have := Nat.and_one_is_mod (m >>> j)
  rw [this, Nat.and_comm, this]
  rcases Nat.mod_two_eq_zero_or_one (m >>> j) with e | e <;> rw [e] <;> rfl
theorem tb_or (a b j : Nat) : tb (Nat.lor a b) j = (tb a j || tb b j) := by
  rw [tb_test, tb_test, tb_test]
  exact Nat.testBit_or a b j
theorem tb_one (k j : Nat) : tb (Nat.shiftLeft 1 k) j = true ↔ k = j := by
  rw [tb_test]
  have : Nat.shiftLeft 1 k = 2 ^ k := by show 1 <<< k = 2 ^ k; rw [Nat.one_shiftLeft]
  rw [this, Nat.testBit_two_pow]
  simp
theorem tb_zero (j : Nat) : tb 0 j = false := by rw [tb_test]; exact Nat.zero_testBit j

theorem edgeMask_tb {pms : List (Nat × Nat)} {j : Nat} : ∀ {l : List Edge}, tb (edgeMask pms l) j = true ↔ ∃ e, e ∈ l ∧ Region.binds .any e = true ∧ (e.on = j ∨ tb (lkN pms e.on) j = true) := by
  intro l
  induction l with
  | nil => simp [edgeMask, tb_zero]
  | cons e r ih =>
    simp only [edgeMask]
    cases hb : Region.binds .any e with
    | true =>
      simp only [tb_or, Bool.or_eq_true, tb_one, ih, List.mem_cons, exists_eq_or_imp, hb, true_and]
    | false =>
      simp only [ih, List.mem_cons, exists_eq_or_imp, hb, Bool.false_eq_true, false_and, false_or]

def masks : List Oper → Nat → List (Nat × Nat) → List (Nat × Nat)
  | [], _, pms => pms
  | o :: os, i, pms => masks os (i + 1) ((i, edgeMask pms o.after.toList) :: pms)

theorem lkN_masks : ∀ (os : List Oper) (i : Nat) (pms : List (Nat × Nat)) (k : Nat), k < i → lkN (masks os i pms) k = lkN pms k := by
  intro os
  induction os with
  | nil => intro i pms k _; rfl
  | cons o os ih =>
    intro i pms k hk
    simp only [masks]
    rw [ih (i + 1) _ k (by omega)]
    simp only [lkN]
    rw [show Nat.beq i k = false from by rw [Bool.eq_false_iff]; exact fun e => by have := Nat.eq_of_beq_eq_true e; omega]

theorem lkN_masks_get : ∀ (os : List Oper) (i : Nat) (pms : List (Nat × Nat)) (k : Nat) (o : Oper), os[k]? = some o → lkN (masks os i pms) (i + k) = edgeMask (masks (os.take k) i pms) o.after.toList := by
  intro os
  induction os with
  | nil => intro i pms k o h; simp at h
  | cons o' os ih =>
    intro i pms k o h
    cases k with
    | zero =>
      simp at h; subst h
      simp only [masks, List.take_zero, Nat.add_zero]
      rw [lkN_masks _ _ _ _ (by omega)]
      simp only [lkN, Nat.beq_refl]
    | succ k =>
      have := ih (i + 1) ((i, edgeMask pms o'.after.toList) :: pms) k o (by simpa using h)
      simp only [masks, List.take_succ_cons]
      rw [show i + (k + 1) = i + 1 + k from by omega]
      exact this

theorem lkN_masks_big : ∀ (os : List Oper) (i : Nat) (pms : List (Nat × Nat)) (k : Nat), i + os.length ≤ k → lkN (masks os i pms) k = lkN pms k := by
  intro os
  induction os with
  | nil => intro i pms k _; rfl
  | cons o os ih =>
    intro i pms k hk
    simp only [List.length_cons] at hk
    simp only [masks]
    rw [ih (i + 1) _ k (by omega)]
    simp only [lkN]
    rw [show Nat.beq i k = false from by rw [Bool.eq_false_iff]; exact fun e => by have := Nat.eq_of_beq_eq_true e; omega]
theorem masks_take (os : List Oper) {i k : Nat} (hk : k < i) : lkN (masks (os.take i) 0 []) k = lkN (masks os 0 []) k := by
  cases ho : os[k]? with
  | none =>
    have := List.getElem?_eq_none_iff.1 ho
    rw [List.take_of_length_le (by omega)]
  | some o =>
    have h1 := lkN_masks_get os 0 [] k o ho
    have h2 := lkN_masks_get (os.take i) 0 [] k o (by rw [List.getElem?_take, if_pos hk]; exact ho)
    rw [List.take_take, Nat.min_eq_left (by omega), ← h1] at h2
    simpa using h2

/- What is bound ahead. -/
def pmOf (ops : Array Oper) (i j : Nat) : Bool := tb (lkN (masks ops.toList 0 []) i) j

theorem okEdges_get {i : Nat} : ∀ {l : List Edge}, okEdges i l = true → ∀ e, e ∈ l → Region.binds .any e = true → e.on < i := by
  intro l
  induction l with
  | nil => intro _ e he; simp at he
  | cons a r ih =>
    intro h e he hb
    simp only [okEdges] at h
    cases hba : Region.binds .any a with
    | true =>
      rw [hba] at h
      cases hl : Nat.ble (a.on + 1) i with
      | true =>
        rw [hl] at h
        rcases List.mem_cons.1 he with rfl | he
        · exact Nat.le_of_ble_eq_true hl
        · exact ih h e he hb
      | false => rw [hl] at h; simp at h
    | false =>
      rw [hba] at h
      rcases List.mem_cons.1 he with rfl | he
      · rw [hba] at hb; simp at hb
      · exact ih h e he hb
theorem okDone_get {ops : Array Oper} {o : Oper} {m : Nat} : ∀ {l : List (Nat × Oper)}, okDone ops o m l = true → ∀ j p, (j, p) ∈ l → tb m j = false → o.apart ops p = true := by
  intro l
  induction l with
  | nil => intro _ j p h; simp at h
  | cons a r ih =>
    obtain ⟨k, q⟩ := a
    intro h j p hm ht
    simp only [okDone] at h
    have ha : tb m k = false → o.apart ops q = true := by
      intro e
      rw [e] at h
      cases hq : o.apart ops q with
      | true => rfl
      | false => rw [hq] at h; simp at h
    have hr : okDone ops o m r = true := by
      cases e : tb m k with
      | true => rw [e] at h; exact h
      | false => rw [e, ha e] at h; exact h
    rcases List.mem_cons.1 hm with e | hm
    · simp only [Prod.mk.injEq] at e
      obtain ⟨rfl, rfl⟩ := e
      exact ha ht
    · exact ih hr j p hm ht
theorem regGo_get {ops : Array Oper} : ∀ (os : List Oper) (i : Nat) (pms : List (Nat × Nat)) (done : List (Nat × Oper)), regGo ops os i pms done = true → ∀ k o, os[k]? = some o →
    okEdges (i + k) o.after.toList = true ∧ (∀ j p, (j, p) ∈ done → tb (lkN (masks os i pms) (i + k)) j = false → o.apart ops p = true) ∧
      ∀ k', k' < k → ∀ p, os[k']? = some p → tb (lkN (masks os i pms) (i + k)) (i + k') = false → o.apart ops p = true := by
  intro os
  induction os with
  | nil => intro i pms done _ k o h; simp at h
  | cons a os ih =>
    intro i pms done h k o hk
    simp only [regGo] at h
    split at h <;> try (simp at h; done)
    rename_i h1
    split at h <;> try (simp at h; done)
    rename_i h2
    cases k with
    | zero =>
      simp at hk; subst hk
      have hm : lkN (masks (a :: os) i pms) (i + 0) = edgeMask pms a.after.toList := lkN_masks_get (a :: os) i pms 0 a rfl
      refine ⟨h1, fun j p hp ht => okDone_get h2 j p hp (by rw [hm] at ht; exact ht), fun k' hk' => by omega⟩
    | succ k =>
      obtain ⟨q1, q2, q3⟩ := ih (i + 1) _ _ h k o (by simpa using hk)
      have he : i + 1 + k = i + (k + 1) := by omega
      rw [he] at q1 q2 q3
      refine ⟨q1, fun j p hp ht => q2 j p (List.mem_cons_of_mem _ hp) ht, fun k' hk' p hp ht => ?_⟩
      cases k' with
      | zero => simp at hp; subst hp; exact q2 i _ (List.mem_cons_self ..) ht
      | succ k' => exact q3 k' (by omega) p (by simpa using hp) (by rw [show i + 1 + k' = i + (k' + 1) from by omega]; exact ht)

theorem regOk_apart {ops : Array Oper} (h : regOk ops = true) (i j : Nat) (oi oj : Oper) (hj : j < i) (hp : pmOf ops i j = false) (ho : ops[i]? = some oi) (ho' : ops[j]? = some oj) : oi.apart ops oj = true := by
  obtain ⟨_, _, q⟩ := regGo_get ops.toList 0 [] [] h i oi (by simpa using ho)
  exact q j hj oj (by simpa using ho') (by simpa [pmOf] using hp)
theorem pmOf_mask {ops : Array Oper} {i : Nat} {o : Oper} (ho : ops[i]? = some o) : lkN (masks ops.toList 0 []) i = edgeMask (masks (ops.toList.take i) 0 []) o.after.toList := by
  have := lkN_masks_get ops.toList 0 [] i o (by simpa using ho)
  simpa using this
theorem regOk_edges {ops : Array Oper} (h : regOk ops = true) : Edges ops (pmOf ops) := by
  have low : ∀ i o e, ops[i]? = some o → e ∈ o.after → Region.binds .any e = true → e.on < i := by
    intro i o e ho he hb
    obtain ⟨q, _, _⟩ := regGo_get ops.toList 0 [] [] h i o (by simpa using ho)
    have := okEdges_get q e (by simpa using he) hb
    omega
  refine ⟨low, fun i j hp => ?_⟩
  cases ho : ops[i]? with
  | none =>
    have hl : ops.toList.length ≤ i := by have := Array.getElem?_eq_none_iff.1 ho; simpa using this
    unfold pmOf at hp
    rw [lkN_masks_big _ _ _ _ (by omega)] at hp
    rw [show lkN [] i = 0 from rfl, tb_zero] at hp
    simp at hp
  | some o =>
    unfold pmOf at hp
    rw [pmOf_mask ho] at hp
    obtain ⟨e, e1, e2, e3⟩ := edgeMask_tb.1 hp
    refine ⟨o, e, rfl, by simpa using e1, e2, ?_⟩
    rcases e3 with e3 | e3
    · exact .inl e3
    · refine .inr ?_
      have hlt := low i o e ho (by simpa using e1) e2
      rw [masks_take _ hlt] at e3
      exact e3

end
end Go.Eng
