import Derived.Test.YtldkmclfhjcicaaDoorCatP
/- Layer 27 in plain Lean: the bytes read by a reader that goes bad; no program in sight. -/
namespace Go.Proofs.YtldkmclfhjcicaaDoor
set_option linter.unusedVariables false
set_option linter.unusedSimpArgs false
abbrev Rd := Bool × Bs
def takeR (st : Rd) (n : Nat) : Bs × Rd := if st.1 || decide (st.2.length < n) then (List.replicate n 0, (true, st.2)) else (st.2.take n, (false, st.2.drop n))
def oneR (st : Rd) : Nat × Rd := (((takeR st 1).1.headD 0).toNat, (takeR st 1).2)
def twoR (st : Rd) : Nat × Rd := (256 * (oneR st).1 + (oneR (oneR st).2).1, (oneR (oneR st).2).2)
def txtR (st : Rd) : Bs × Rd := takeR (oneR st).2 (oneR st).1
def entR (st : Rd) : Ent × Rd :=
  (⟨(txtR st).1, (oneR (txtR st).2).1, (txtR (oneR (txtR st).2).2).1, (twoR (txtR (oneR (txtR st).2).2).2).1⟩, (twoR (txtR (oneR (txtR st).2).2).2).2)
def grpR (st : Rd) : Grp × Rd := (⟨(txtR st).1, (oneR (txtR st).2).1⟩, (oneR (txtR st).2).2)
def entsR : Nat → Rd → List Ent × Rd
  | 0, st => ([], st)
  | m + 1, st => if st.1 then ([], st) else ((entR st).1 :: (entsR m (entR st).2).1, (entsR m (entR st).2).2)
def grpsR : Nat → Rd → List Grp × Rd
  | 0, st => ([], st)
  | m + 1, st => if st.1 then ([], st) else ((grpR st).1 :: (grpsR m (grpR st).2).1, (grpsR m (grpR st).2).2)
theorem takeR_bad (b : Bs) (n : Nat) : (takeR (true, b) n).2.1 = true := by simp [takeR]
theorem takeR_good (b : Bs) (n : Nat) : match pN n b with | some (s, t) => takeR (false, b) n = (s, (false, t)) | none => (takeR (false, b) n).2.1 = true := by
  unfold pN takeR
  by_cases h : n ≤ b.length
  · have hd : decide (b.length < n) = false := by simpa using h
    rw [if_pos h]; simp [hd]
  · have hd : decide (b.length < n) = true := by simpa using h
    rw [if_neg h]; simp [hd]
theorem oneR_bad (b : Bs) : (oneR (true, b)).2.1 = true := takeR_bad b 1
theorem oneR_good (b : Bs) : match p1 b with | some (x, t) => oneR (false, b) = (x, (false, t)) | none => (oneR (false, b)).2.1 = true := by
  cases b with
  | nil => simp [p1, oneR, takeR]
  | cons x t => simp [p1, oneR, takeR]
theorem twoR_bad (b : Bs) : (twoR (true, b)).2.1 = true := by
  unfold twoR
  have h := oneR_bad b
  rcases hq : (oneR (true, b)).2 with ⟨q, c⟩
  rw [hq] at h
  have h : q = true := h
  subst h
  exact oneR_bad c
theorem twoR_good (b : Bs) : match p2 b with | some (x, t) => twoR (false, b) = (x, (false, t)) | none => (twoR (false, b)).2.1 = true := by
  match b with
  | [] => simp [p2, twoR, oneR, takeR]
  | [x] => simp [p2, twoR, oneR, takeR]
  | x :: y :: t => simp [p2, twoR, oneR, takeR]
theorem txtR_bad (b : Bs) : (txtR (true, b)).2.1 = true := by
  unfold txtR
  have h := oneR_bad b
  rcases hq : (oneR (true, b)).2 with ⟨q, c⟩
  rw [hq] at h
  have h : q = true := h
  subst h
  exact takeR_bad c _
theorem txtR_good (b : Bs) : match pT b with | some (x, t) => txtR (false, b) = (x, (false, t)) | none => (txtR (false, b)).2.1 = true := by
  unfold pT txtR
  have h := oneR_good b
  cases hp : p1 b with
  | none =>
    rw [hp] at h
    simp only at h ⊢
    rcases hq : (oneR (false, b)).2 with ⟨q, c⟩
    rw [hq] at h
    have h : q = true := h
    subst h
    exact takeR_bad c _
  | some r =>
    obtain ⟨x, t⟩ := r
    rw [hp] at h
    simp only at h ⊢
    rw [h]
    exact takeR_good t x
theorem entR_bad (b : Bs) : (entR (true, b)).2.1 = true := by
  unfold entR
  have h1 := txtR_bad b
  rcases e1 : (txtR (true, b)).2 with ⟨q1, c1⟩
  rw [e1] at h1; have h1 : q1 = true := h1; subst h1
  have h2 := oneR_bad c1
  rcases e2 : (oneR (true, c1)).2 with ⟨q2, c2⟩
  rw [e2] at h2; have h2 : q2 = true := h2; subst h2
  have h3 := txtR_bad c2
  rcases e3 : (txtR (true, c2)).2 with ⟨q3, c3⟩
  rw [e3] at h3; have h3 : q3 = true := h3; subst h3
  simp only [e2, e3]
  exact twoR_bad c3
theorem entR_good (b : Bs) : match pEnt b with | some (x, t) => entR (false, b) = (x, (false, t)) | none => (entR (false, b)).2.1 = true := by
  unfold pEnt entR
  have h := txtR_good b
  cases hp : pT b with
  | none =>
    rw [hp] at h
    simp only at h ⊢
    rcases e1 : (txtR (false, b)).2 with ⟨q1, c1⟩
    rw [e1] at h; have h : q1 = true := h; subst h
    have h2 := oneR_bad c1
    rcases e2 : (oneR (true, c1)).2 with ⟨q2, c2⟩
    rw [e2] at h2; have h2 : q2 = true := h2; subst h2
    have h3 := txtR_bad c2
    rcases e3 : (txtR (true, c2)).2 with ⟨q3, c3⟩
    rw [e3] at h3; have h3 : q3 = true := h3; subst h3
    try simp only [e2, e3]
    exact twoR_bad c3
  | some r =>
    obtain ⟨nm, t1⟩ := r
    rw [hp] at h
    simp only at h ⊢
    rw [h]
    have h2 := oneR_good t1
    cases hp2 : p1 t1 with
    | none =>
      rw [hp2] at h2
      simp only at h2 ⊢
      rcases e2 : (oneR (false, t1)).2 with ⟨q2, c2⟩
      rw [e2] at h2; have h2 : q2 = true := h2; subst h2
      have h3 := txtR_bad c2
      rcases e3 : (txtR (true, c2)).2 with ⟨q3, c3⟩
      rw [e3] at h3; have h3 : q3 = true := h3; subst h3
      try simp only [e3]
      exact twoR_bad c3
    | some r2 =>
      obtain ⟨u, t2⟩ := r2
      rw [hp2] at h2
      simp only at h2 ⊢
      rw [h2]
      have h3 := txtR_good t2
      cases hp3 : pT t2 with
      | none =>
        rw [hp3] at h3
        simp only at h3 ⊢
        rcases e3 : (txtR (false, t2)).2 with ⟨q3, c3⟩
        rw [e3] at h3; have h3 : q3 = true := h3; subst h3
        exact twoR_bad c3
      | some r3 =>
        obtain ⟨sr, t3⟩ := r3
        rw [hp3] at h3
        simp only at h3 ⊢
        rw [h3]
        have h4 := twoR_good t3
        cases hp4 : p2 t3 with
        | none => rw [hp4] at h4; simp only at h4 ⊢; exact h4
        | some r4 => obtain ⟨f, t4⟩ := r4; rw [hp4] at h4; simp only at h4 ⊢; rw [h4]
theorem grpR_good (b : Bs) : match pGrp b with | some (x, t) => grpR (false, b) = (x, (false, t)) | none => (grpR (false, b)).2.1 = true := by
  unfold pGrp grpR
  have h := txtR_good b
  cases hp : pT b with
  | none =>
    rw [hp] at h
    simp only at h ⊢
    rcases e1 : (txtR (false, b)).2 with ⟨q1, c1⟩
    rw [e1] at h; have h : q1 = true := h; subst h
    exact oneR_bad c1
  | some r =>
    obtain ⟨nm, t1⟩ := r
    rw [hp] at h
    simp only at h ⊢
    rw [h]
    have h2 := oneR_good t1
    cases hp2 : p1 t1 with
    | none => rw [hp2] at h2; simp only at h2 ⊢; exact h2
    | some r2 => obtain ⟨u, t2⟩ := r2; rw [hp2] at h2; simp only at h2 ⊢; rw [h2]
theorem entsR_bad : ∀ (m : Nat) (b : Bs), entsR m (true, b) = ([], (true, b))
  | 0, _ => rfl
  | _ + 1, _ => rfl
theorem grpsR_bad : ∀ (m : Nat) (b : Bs), grpsR m (true, b) = ([], (true, b))
  | 0, _ => rfl
  | _ + 1, _ => rfl
theorem entsR_good : ∀ (m : Nat) (b : Bs), match pEnts m b with | some (x, t) => entsR m (false, b) = (x, (false, t)) | none => (entsR m (false, b)).2.1 = true
  | 0, b => rfl
  | m + 1, b => by
    unfold pEnts entsR
    have h := entR_good b
    cases hp : pEnt b with
    | none =>
      rw [hp] at h
      simp only [Bool.false_eq_true, if_false] at h ⊢
      rcases e1 : (entR (false, b)).2 with ⟨q1, c1⟩
      rw [e1] at h; have h : q1 = true := h; subst h
      rw [entsR_bad]
    | some r =>
      obtain ⟨e, t⟩ := r
      rw [hp] at h
      simp only [Bool.false_eq_true, if_false] at h ⊢
      rw [h]
      have ih := entsR_good m t
      cases hq : pEnts m t with
      | none => rw [hq] at ih; simp only at ih ⊢; exact ih
      | some r2 => obtain ⟨l, t2⟩ := r2; rw [hq] at ih; simp only at ih ⊢; rw [ih]
theorem grpsR_good : ∀ (m : Nat) (b : Bs), match pGrps m b with | some (x, t) => grpsR m (false, b) = (x, (false, t)) | none => (grpsR m (false, b)).2.1 = true
  | 0, b => rfl
  | m + 1, b => by
    unfold pGrps grpsR
    have h := grpR_good b
    cases hp : pGrp b with
    | none =>
      rw [hp] at h
      simp only [Bool.false_eq_true, if_false] at h ⊢
      rcases e1 : (grpR (false, b)).2 with ⟨q1, c1⟩
      rw [e1] at h; have h : q1 = true := h; subst h
      rw [grpsR_bad]
    | some r =>
      obtain ⟨e, t⟩ := r
      rw [hp] at h
      simp only [Bool.false_eq_true, if_false] at h ⊢
      rw [h]
      have ih := grpsR_good m t
      cases hq : pGrps m t with
      | none => rw [hq] at ih; simp only at ih ⊢; exact ih
      | some r2 => obtain ⟨l, t2⟩ := r2; rw [hq] at ih; simp only at ih ⊢; rw [ih]
/-- what the reader makes of bytes: the entries, the groups, and how the reader ends -/
def allR (b : Bs) : Cat × Rd :=
  (⟨(entsR (twoR (false, b)).1 (twoR (false, b)).2).1, (grpsR (twoR (entsR (twoR (false, b)).1 (twoR (false, b)).2).2).1 (twoR (entsR (twoR (false, b)).1 (twoR (false, b)).2).2).2).1⟩,
   (grpsR (twoR (entsR (twoR (false, b)).1 (twoR (false, b)).2).2).1 (twoR (entsR (twoR (false, b)).1 (twoR (false, b)).2).2).2).2)
theorem allR_decC (b : Bs) : decC b = if (allR b).2.1 || decide (0 < (allR b).2.2.length) || !validC (allR b).1 then (⟨[], []⟩, 5) else ((allR b).1, 0) := by
  have bad : ∀ st : Rd, st.1 = true → ∀ m, grpsR m (twoR st).2 = ([], (twoR st).2) ∧ (twoR st).2.1 = true := fun st hst m => by
    obtain ⟨q, c⟩ := st
    have hst : q = true := hst
    subst hst
    have h := twoR_bad c
    rcases e2 : (twoR (true, c)).2 with ⟨q2, c2⟩
    rw [e2] at h; have h : q2 = true := h; subst h
    exact ⟨grpsR_bad m c2, rfl⟩
  unfold decC pCat
  have h := twoR_good b
  cases hp : p2 b with
  | none =>
    rw [hp] at h
    simp only at h ⊢
    have : (allR b).2.1 = true := by
      unfold allR
      rcases e1 : (twoR (false, b)).2 with ⟨q1, c1⟩
      rw [e1] at h; have h : q1 = true := h; subst h
      rw [entsR_bad]
      have := bad (true, c1) rfl (twoR (true, c1)).1
      simp only [this.1]; exact this.2
    rw [this]; rfl
  | some r =>
    obtain ⟨n, t⟩ := r
    rw [hp] at h
    simp only at h ⊢
    have h2 := entsR_good n t
    cases hq : pEnts n t with
    | none =>
      rw [hq] at h2
      simp only at h2 ⊢
      have : (allR b).2.1 = true := by
        unfold allR
        rw [h]
        have := bad (entsR n (false, t)).2 h2 (twoR (entsR n (false, t)).2).1
        simp only [this.1]; exact this.2
      rw [this]; rfl
    | some r2 =>
      obtain ⟨es, t1⟩ := r2
      rw [hq] at h2
      simp only at h2 ⊢
      have h3 := twoR_good t1
      cases hq3 : p2 t1 with
      | none =>
        rw [hq3] at h3
        simp only at h3 ⊢
        have : (allR b).2.1 = true := by
          unfold allR
          rw [h, h2]
          rcases e1 : (twoR (false, t1)).2 with ⟨q1, c1⟩
          rw [e1] at h3; have h3 : q1 = true := h3; subst h3
          simp only [e1, grpsR_bad]
        rw [this]; rfl
      | some r3 =>
        obtain ⟨m, t2⟩ := r3
        rw [hq3] at h3
        simp only at h3 ⊢
        have h4 := grpsR_good m t2
        cases hq4 : pGrps m t2 with
        | none =>
          rw [hq4] at h4
          simp only at h4 ⊢
          have : (allR b).2.1 = true := by
            unfold allR
            rw [h, h2]
            simp only
            rw [h3]; exact h4
          rw [this]; rfl
        | some r4 =>
          obtain ⟨gs, t3⟩ := r4
          rw [hq4] at h4
          simp only at h4 ⊢
          have e : allR b = (⟨es, gs⟩, (false, t3)) := by
            unfold allR
            rw [h, h2]
            simp only
            rw [h3]
            simp only
            rw [h4]
          rw [e]
          by_cases ht : t3 = []
          · subst ht
            simp only [if_true, List.length_nil, Nat.lt_irrefl, decide_false, Bool.or_false, Bool.false_or]
            cases validC ⟨es, gs⟩ <;> rfl
          · rw [if_neg ht]
            have : 0 < t3.length := List.length_pos_iff.2 ht
            simp [this]
end Go.Proofs.YtldkmclfhjcicaaDoor
