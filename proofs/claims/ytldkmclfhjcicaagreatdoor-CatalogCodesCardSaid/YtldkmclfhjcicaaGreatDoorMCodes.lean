import Derived.Outline
import Derived.Test.YtldkmclfhjcicaaGreatDoorCatP
import Derived.Test.YtldkmclfhjcicaaGreatDoorWK
import Derived.Test.YtldkmclfhjcicaaGreatDoorWA
import Derived.Test.YtldkmclfhjcicaaGreatDoorWB
import Derived.Test.YtldkmclfhjcicaaGreatDoorWH
import Derived.Test.YtldkmclfhjcicaaGreatDoorVU
import Derived.Test.YtldkmclfhjcicaaGreatDoorWI
import Derived.Test.YtldkmclfhjcicaaGreatDoorWG

/- Layer 27 in plain Lean: the bytes read by a reader that goes bad; no program in sight. -/
namespace Go.Proofs.YtldkmclfhjcicaaGreatDoor
set_option linter.unusedVariables false
set_option linter.unusedSimpArgs false
abbrev Rd := Bool × Bs
def takeR (st : Rd) (n : Nat) : Bs × Rd := if st.1 || decide (st.2.length < n) then (List.replicate n 0, (true, st.2)) else (st.2.take n, (false, st.2.drop n))
def oneR (st : Rd) : Nat × Rd := (((takeR st 1).1.headD 0).toNat, (takeR st 1).2)
def twoR (st : Rd) : Nat × Rd := (256 * (oneR st).1 + (oneR (oneR st).2).1, (oneR (oneR st).2).2)
def txtR (st : Rd) : Bs × Rd := takeR (oneR st).2 (oneR st).1
def entR (st : Rd) : Ent × Rd :=
  (⟨(txtR st).1, (oneR (txtR st).2).1, (txtR (oneR (txtR st).2).2).1, (twoR (txtR (oneR (txtR st).2).2).2).1⟩, (twoR (txtR (oneR (txtR st).2).2).2).2)
def grpR (st : Rd) : Grp × Rd := (⟨(txtR st).1, (oneR (txtR st).2).1⟩, (oneR (txtR st).2).2)
def entsR : Nat → Rd → List Ent × Rd
  | 0, st => ([], st)
  | m + 1, st => if st.1 then ([], st) else ((entR st).1 :: (entsR m (entR st).2).1, (entsR m (entR st).2).2)
def grpsR : Nat → Rd → List Grp × Rd
  | 0, st => ([], st)
  | m + 1, st => if st.1 then ([], st) else ((grpR st).1 :: (grpsR m (grpR st).2).1, (grpsR m (grpR st).2).2)
theorem takeR_bad (b : Bs) (n : Nat) : (takeR (true, b) n).2.1 = true := by simp [takeR]
theorem takeR_good (b : Bs) (n : Nat) : match pN n b with | some (s, t) => takeR (false, b) n = (s, (false, t)) | none => (takeR (false, b) n).2.1 = true := by
  unfold pN takeR
  by_cases h : n ≤ b.length
  · have hd : decide (b.length < n) = false := by simpa using h
    rw [if_pos h]; simp [hd]
  · have hd : decide (b.length < n) = true := by simpa using h
    rw [if_neg h]; simp [hd]
theorem oneR_bad (b : Bs) : (oneR (true, b)).2.1 = true := takeR_bad b 1
theorem oneR_good (b : Bs) : match p1 b with | some (x, t) => oneR (false, b) = (x, (false, t)) | none => (oneR (false, b)).2.1 = true := by
  cases b with
  | nil => simp [p1, oneR, takeR]
  | cons x t => simp [p1, oneR, takeR]
theorem twoR_bad (b : Bs) : (twoR (true, b)).2.1 = true := by
  unfold twoR
  have h := oneR_bad b
  rcases hq : (oneR (true, b)).2 with ⟨q, c⟩
  rw [hq] at h
  have h : q = true := h
  subst h
  exact oneR_bad c
theorem twoR_good (b : Bs) : match p2 b with | some (x, t) => twoR (false, b) = (x, (false, t)) | none => (twoR (false, b)).2.1 = true := by
  match b with
  | [] => simp [p2, twoR, oneR, takeR]
  | [x] => simp [p2, twoR, oneR, takeR]
  | x :: y :: t => simp [p2, twoR, oneR, takeR]
theorem txtR_bad (b : Bs) : (txtR (true, b)).2.1 = true := by
  unfold txtR
  have h := oneR_bad b
  rcases hq : (oneR (true, b)).2 with ⟨q, c⟩
  rw [hq] at h
  have h : q = true := h
  subst h
  exact takeR_bad c _
theorem txtR_good (b : Bs) : match pT b with | some (x, t) => txtR (false, b) = (x, (false, t)) | none => (txtR (false, b)).2.1 = true := by
  unfold pT txtR
  have h := oneR_good b
  cases hp : p1 b with
  | none =>
    rw [hp] at h
    simp only at h ⊢
    rcases hq : (oneR (false, b)).2 with ⟨q, c⟩
    rw [hq] at h
    have h : q = true := h
    subst h
    exact takeR_bad c _
  | some r =>
    obtain ⟨x, t⟩ := r
    rw [hp] at h
    simp only at h ⊢
    rw [h]
    exact takeR_good t x
theorem entR_good (b : Bs) : match pEnt b with | some (x, t) => entR (false, b) = (x, (false, t)) | none => (entR (false, b)).2.1 = true := by
  unfold pEnt entR
  have h := txtR_good b
  cases hp : pT b with
  | none =>
    rw [hp] at h
    simp only at h ⊢
    rcases e1 : (txtR (false, b)).2 with ⟨q1, c1⟩
    rw [e1] at h; have h : q1 = true := h; subst h
    have h2 := oneR_bad c1
    rcases e2 : (oneR (true, c1)).2 with ⟨q2, c2⟩
    rw [e2] at h2; have h2 : q2 = true := h2; subst h2
    have h3 := txtR_bad c2
    rcases e3 : (txtR (true, c2)).2 with ⟨q3, c3⟩
    rw [e3] at h3; have h3 : q3 = true := h3; subst h3
    try simp only [e2, e3]
    exact twoR_bad c3
  | some r =>
    obtain ⟨nm, t1⟩ := r
    rw [hp] at h
    simp only at h ⊢
    rw [h]
    have h2 := oneR_good t1
    cases hp2 : p1 t1 with
    | none =>
      rw [hp2] at h2
      simp only at h2 ⊢
      rcases e2 : (oneR (false, t1)).2 with ⟨q2, c2⟩
      rw [e2] at h2; have h2 : q2 = true := h2; subst h2
      have h3 := txtR_bad c2
      rcases e3 : (txtR (true, c2)).2 with ⟨q3, c3⟩
      rw [e3] at h3; have h3 : q3 = true := h3; subst h3
      try simp only [e3]
      exact twoR_bad c3
    | some r2 =>
      obtain ⟨u, t2⟩ := r2
      rw [hp2] at h2
      simp only at h2 ⊢
      rw [h2]
      have h3 := txtR_good t2
      cases hp3 : pT t2 with
      | none =>
        rw [hp3] at h3
        simp only at h3 ⊢
        rcases e3 : (txtR (false, t2)).2 with ⟨q3, c3⟩
        rw [e3] at h3; have h3 : q3 = true := h3; subst h3
        exact twoR_bad c3
      | some r3 =>
        obtain ⟨sr, t3⟩ := r3
        rw [hp3] at h3
        simp only at h3 ⊢
        rw [h3]
        have h4 := twoR_good t3
        cases hp4 : p2 t3 with
        | none => rw [hp4] at h4; simp only at h4 ⊢; exact h4
        | some r4 => obtain ⟨f, t4⟩ := r4; rw [hp4] at h4; simp only at h4 ⊢; rw [h4]
theorem grpR_good (b : Bs) : match pGrp b with | some (x, t) => grpR (false, b) = (x, (false, t)) | none => (grpR (false, b)).2.1 = true := by
  unfold pGrp grpR
  have h := txtR_good b
  cases hp : pT b with
  | none =>
    rw [hp] at h
    simp only at h ⊢
    rcases e1 : (txtR (false, b)).2 with ⟨q1, c1⟩
    rw [e1] at h; have h : q1 = true := h; subst h
    exact oneR_bad c1
  | some r =>
    obtain ⟨nm, t1⟩ := r
    rw [hp] at h
    simp only at h ⊢
    rw [h]
    have h2 := oneR_good t1
    cases hp2 : p1 t1 with
    | none => rw [hp2] at h2; simp only at h2 ⊢; exact h2
    | some r2 => obtain ⟨u, t2⟩ := r2; rw [hp2] at h2; simp only at h2 ⊢; rw [h2]
theorem entsR_bad : ∀ (m : Nat) (b : Bs), entsR m (true, b) = ([], (true, b))
  | 0, _ => rfl
  | _ + 1, _ => rfl
theorem grpsR_bad : ∀ (m : Nat) (b : Bs), grpsR m (true, b) = ([], (true, b))
  | 0, _ => rfl
  | _ + 1, _ => rfl
theorem entsR_good : ∀ (m : Nat) (b : Bs), match pEnts m b with | some (x, t) => entsR m (false, b) = (x, (false, t)) | none => (entsR m (false, b)).2.1 = true
  | 0, b => rfl
  | m + 1, b => by
    unfold pEnts entsR
    have h := entR_good b
    cases hp : pEnt b with
    | none =>
      rw [hp] at h
      simp only [Bool.false_eq_true, if_false] at h ⊢
      rcases e1 : (entR (false, b)).2 with ⟨q1, c1⟩
      rw [e1] at h; have h : q1 = true := h; subst h
      rw [entsR_bad]
    | some r =>
      obtain ⟨e, t⟩ := r
      rw [hp] at h
      simp only [Bool.false_eq_true, if_false] at h ⊢
      rw [h]
      have ih := entsR_good m t
      cases hq : pEnts m t with
      | none => rw [hq] at ih; simp only at ih ⊢; exact ih
      | some r2 => obtain ⟨l, t2⟩ := r2; rw [hq] at ih; simp only at ih ⊢; rw [ih]
theorem grpsR_good : ∀ (m : Nat) (b : Bs), match pGrps m b with | some (x, t) => grpsR m (false, b) = (x, (false, t)) | none => (grpsR m (false, b)).2.1 = true
  | 0, b => rfl
  | m + 1, b => by
    unfold pGrps grpsR
    have h := grpR_good b
    cases hp : pGrp b with
    | none =>
      rw [hp] at h
      simp only [Bool.false_eq_true, if_false] at h ⊢
      rcases e1 : (grpR (false, b)).2 with ⟨q1, c1⟩
      rw [e1] at h; have h : q1 = true := h; subst h
      rw [grpsR_bad]
    | some r =>
      obtain ⟨e, t⟩ := r
      rw [hp] at h
      simp only [Bool.false_eq_true, if_false] at h ⊢
      rw [h]
      have ih := grpsR_good m t
      cases hq : pGrps m t with
      | none => rw [hq] at ih; simp only at ih ⊢; exact ih
      | some r2 => obtain ⟨l, t2⟩ := r2; rw [hq] at ih; simp only at ih ⊢; rw [ih]
def allR (b : Bs) : Cat × Rd :=
  (⟨(entsR (twoR (false, b)).1 (twoR (false, b)).2).1, (grpsR (twoR (entsR (twoR (false, b)).1 (twoR (false, b)).2).2).1 (twoR (entsR (twoR (false, b)).1 (twoR (false, b)).2).2).2).1⟩,
   (grpsR (twoR (entsR (twoR (false, b)).1 (twoR (false, b)).2).2).1 (twoR (entsR (twoR (false, b)).1 (twoR (false, b)).2).2).2).2)
theorem allR_decC (b : Bs) : decC b = if (allR b).2.1 || decide (0 < (allR b).2.2.length) || !validC (allR b).1 then (⟨[], []⟩, 5) else ((allR b).1, 0) := by
  have bad : ∀ st : Rd, st.1 = true → ∀ m, grpsR m (twoR st).2 = ([], (twoR st).2) ∧ (twoR st).2.1 = true := fun st hst m => by
    obtain ⟨q, c⟩ := st
    have hst : q = true := hst
    subst hst
    have h := twoR_bad c
    rcases e2 : (twoR (true, c)).2 with ⟨q2, c2⟩
    rw [e2] at h; have h : q2 = true := h; subst h
    exact ⟨grpsR_bad m c2, rfl⟩
  unfold decC pCat
  have h := twoR_good b
  cases hp : p2 b with
  | none =>
    rw [hp] at h
    simp only at h ⊢
    have : (allR b).2.1 = true := by
      unfold allR
      rcases e1 : (twoR (false, b)).2 with ⟨q1, c1⟩
      rw [e1] at h; have h : q1 = true := h; subst h
      rw [entsR_bad]
      have := bad (true, c1) rfl (twoR (true, c1)).1
      simp only [this.1]; exact this.2
    rw [this]; rfl
  | some r =>
    obtain ⟨n, t⟩ := r
    rw [hp] at h
    simp only at h ⊢
    have h2 := entsR_good n t
    cases hq : pEnts n t with
    | none =>
      rw [hq] at h2
      simp only at h2 ⊢
      have : (allR b).2.1 = true := by
        unfold allR
        rw [h]
        have := bad (entsR n (false, t)).2 h2 (twoR (entsR n (false, t)).2).1
        simp only [this.1]; exact this.2
      rw [this]; rfl
    | some r2 =>
      obtain ⟨es, t1⟩ := r2
      rw [hq] at h2
      simp only at h2 ⊢
      have h3 := twoR_good t1
      cases hq3 : p2 t1 with
      | none =>
        rw [hq3] at h3
        simp only at h3 ⊢
        have : (allR b).2.1 = true := by
          unfold allR
          rw [h, h2]
          rcases e1 : (twoR (false, t1)).2 with ⟨q1, c1⟩
          rw [e1] at h3; have h3 : q1 = true := h3; subst h3
          simp only [e1, grpsR_bad]
        rw [this]; rfl
      | some r3 =>
        obtain ⟨m, t2⟩ := r3
        rw [hq3] at h3
        simp only at h3 ⊢
        have h4 := grpsR_good m t2
        cases hq4 : pGrps m t2 with
        | none =>
          rw [hq4] at h4
          simp only at h4 ⊢
          have : (allR b).2.1 = true := by
            unfold allR
            rw [h, h2]
            simp only
            rw [h3]; exact h4
          rw [this]; rfl
        | some r4 =>
          obtain ⟨gs, t3⟩ := r4
          rw [hq4] at h4
          simp only at h4 ⊢
          have e : allR b = (⟨es, gs⟩, (false, t3)) := by
            unfold allR
            rw [h, h2]
            simp only
            rw [h3]
            simp only
            rw [h4]
          rw [e]
          by_cases ht : t3 = []
          · subst ht
            simp only [if_true, List.length_nil, Nat.lt_irrefl, decide_false, Bool.or_false, Bool.false_or]
            cases validC ⟨es, gs⟩ <;> rfl
          · rw [if_neg ht]
            have : 0 < t3.length := List.length_pos_iff.2 ht
            simp [this]
end Go.Proofs.YtldkmclfhjcicaaGreatDoor

/- Layer 27 in plain Lean: the reference's reader; no program in sight. -/
namespace Go.Proofs.YtldkmclfhjcicaaGreatDoor
set_option linter.unusedVariables false
set_option linter.unusedSimpArgs false
def twoQ (st : Rd) : Nat × Rd := (256 * ((takeR st 2).1.headD 0).toNat + (((takeR st 2).1.drop 1).headD 0).toNat, (takeR st 2).2)
theorem twoQ_bad (b : Bs) : (twoQ (true, b)).2.1 = true := takeR_bad b 2
theorem twoQ_good (b : Bs) : match p2 b with | some (x, t) => twoQ (false, b) = (x, (false, t)) | none => (twoQ (false, b)).2.1 = true := by
  match b with
  | [] => simp [p2, twoQ, takeR]
  | [x] => simp [p2, twoQ, takeR]
  | x :: y :: t =>
    have h : ¬ (t.length + 1 + 1 < 2) := by omega
    simp [p2, twoQ, takeR, h]
def entQ (st : Rd) : Ent × Rd :=
  (⟨(txtR st).1, (oneR (txtR st).2).1, (txtR (oneR (txtR st).2).2).1, (twoQ (txtR (oneR (txtR st).2).2).2).1⟩, (twoQ (txtR (oneR (txtR st).2).2).2).2)
def entsQ : Nat → Rd → List Ent × Rd
  | 0, st => ([], st)
  | m + 1, st => if st.1 then ([], st) else ((entQ st).1 :: (entsQ m (entQ st).2).1, (entsQ m (entQ st).2).2)
theorem entQ_good (b : Bs) : match pEnt b with | some (x, t) => entQ (false, b) = (x, (false, t)) | none => (entQ (false, b)).2.1 = true := by
  unfold pEnt entQ
  have h := txtR_good b
  cases hp : pT b with
  | none =>
    rw [hp] at h
    simp only at h ⊢
    rcases e1 : (txtR (false, b)).2 with ⟨q1, c1⟩
    rw [e1] at h; have h : q1 = true := h; subst h
    have h2 := oneR_bad c1
    rcases e2 : (oneR (true, c1)).2 with ⟨q2, c2⟩
    rw [e2] at h2; have h2 : q2 = true := h2; subst h2
    have h3 := txtR_bad c2
    rcases e3 : (txtR (true, c2)).2 with ⟨q3, c3⟩
    rw [e3] at h3; have h3 : q3 = true := h3; subst h3
    try simp only [e2, e3]
    exact twoQ_bad c3
  | some r =>
    obtain ⟨nm, t1⟩ := r
    rw [hp] at h
    simp only at h ⊢
    rw [h]
    have h2 := oneR_good t1
    cases hp2 : p1 t1 with
    | none =>
      rw [hp2] at h2
      simp only at h2 ⊢
      rcases e2 : (oneR (false, t1)).2 with ⟨q2, c2⟩
      rw [e2] at h2; have h2 : q2 = true := h2; subst h2
      have h3 := txtR_bad c2
      rcases e3 : (txtR (true, c2)).2 with ⟨q3, c3⟩
      rw [e3] at h3; have h3 : q3 = true := h3; subst h3
      try simp only [e3]
      exact twoQ_bad c3
    | some r2 =>
      obtain ⟨u, t2⟩ := r2
      rw [hp2] at h2
      simp only at h2 ⊢
      rw [h2]
      have h3 := txtR_good t2
      cases hp3 : pT t2 with
      | none =>
        rw [hp3] at h3
        simp only at h3 ⊢
        rcases e3 : (txtR (false, t2)).2 with ⟨q3, c3⟩
        rw [e3] at h3; have h3 : q3 = true := h3; subst h3
        exact twoQ_bad c3
      | some r3 =>
        obtain ⟨sr, t3⟩ := r3
        rw [hp3] at h3
        simp only at h3 ⊢
        rw [h3]
        have h4 := twoQ_good t3
        cases hp4 : p2 t3 with
        | none => rw [hp4] at h4; simp only at h4 ⊢; exact h4
        | some r4 => obtain ⟨f, t4⟩ := r4; rw [hp4] at h4; simp only at h4 ⊢; rw [h4]
theorem entsQ_bad : ∀ (m : Nat) (b : Bs), entsQ m (true, b) = ([], (true, b))
  | 0, _ => rfl
  | _ + 1, _ => rfl
theorem entsQ_good : ∀ (m : Nat) (b : Bs), match pEnts m b with | some (x, t) => entsQ m (false, b) = (x, (false, t)) | none => (entsQ m (false, b)).2.1 = true
  | 0, b => rfl
  | m + 1, b => by
    unfold pEnts entsQ
    have h := entQ_good b
    cases hp : pEnt b with
    | none =>
      rw [hp] at h
      simp only [Bool.false_eq_true, if_false] at h ⊢
      rcases e1 : (entQ (false, b)).2 with ⟨q1, c1⟩
      rw [e1] at h; have h : q1 = true := h; subst h
      rw [entsQ_bad]
    | some r =>
      obtain ⟨e, t⟩ := r
      rw [hp] at h
      simp only [Bool.false_eq_true, if_false] at h ⊢
      rw [h]
      have ih := entsQ_good m t
      cases hq : pEnts m t with
      | none => rw [hq] at ih; simp only at ih ⊢; exact ih
      | some r2 => obtain ⟨l, t2⟩ := r2; rw [hq] at ih; simp only at ih ⊢; rw [ih]
def allQ (b : Bs) : Cat × Rd :=
  (⟨(entsQ (twoQ (false, b)).1 (twoQ (false, b)).2).1, (grpsR (twoQ (entsQ (twoQ (false, b)).1 (twoQ (false, b)).2).2).1 (twoQ (entsQ (twoQ (false, b)).1 (twoQ (false, b)).2).2).2).1⟩,
   (grpsR (twoQ (entsQ (twoQ (false, b)).1 (twoQ (false, b)).2).2).1 (twoQ (entsQ (twoQ (false, b)).1 (twoQ (false, b)).2).2).2).2)
theorem allQ_decC (b : Bs) : decC b = if (allQ b).2.1 || decide (0 < (allQ b).2.2.length) || !validC (allQ b).1 then (⟨[], []⟩, 5) else ((allQ b).1, 0) := by
  have bad : ∀ st : Rd, st.1 = true → ∀ m, grpsR m (twoQ st).2 = ([], (twoQ st).2) ∧ (twoQ st).2.1 = true := fun st hst m => by
    obtain ⟨q, c⟩ := st
    have hst : q = true := hst
    subst hst
    have h := twoQ_bad c
    rcases e2 : (twoQ (true, c)).2 with ⟨q2, c2⟩
    rw [e2] at h; have h : q2 = true := h; subst h
    exact ⟨grpsR_bad m c2, rfl⟩
  unfold decC pCat
  have h := twoQ_good b
  cases hp : p2 b with
  | none =>
    rw [hp] at h
    simp only at h ⊢
    have : (allQ b).2.1 = true := by
      unfold allQ
      rcases e1 : (twoQ (false, b)).2 with ⟨q1, c1⟩
      rw [e1] at h; have h : q1 = true := h; subst h
      rw [entsQ_bad]
      have := bad (true, c1) rfl (twoQ (true, c1)).1
      simp only [this.1]; exact this.2
    rw [this]; rfl
  | some r =>
    obtain ⟨n, t⟩ := r
    rw [hp] at h
    simp only at h ⊢
    have h2 := entsQ_good n t
    cases hq : pEnts n t with
    | none =>
      rw [hq] at h2
      simp only at h2 ⊢
      have : (allQ b).2.1 = true := by
        unfold allQ
        rw [h]
        have := bad (entsQ n (false, t)).2 h2 (twoQ (entsQ n (false, t)).2).1
        simp only [this.1]; exact this.2
      rw [this]; rfl
    | some r2 =>
      obtain ⟨es, t1⟩ := r2
      rw [hq] at h2
      simp only at h2 ⊢
      have h3 := twoQ_good t1
      cases hq3 : p2 t1 with
      | none =>
        rw [hq3] at h3
        simp only at h3 ⊢
        have : (allQ b).2.1 = true := by
          unfold allQ
          rw [h, h2]
          rcases e1 : (twoQ (false, t1)).2 with ⟨q1, c1⟩
          rw [e1] at h3; have h3 : q1 = true := h3; subst h3
          simp only [e1, grpsR_bad]
        rw [this]; rfl
      | some r3 =>
        obtain ⟨m, t2⟩ := r3
        rw [hq3] at h3
        simp only at h3 ⊢
        have h4 := grpsR_good m t2
        cases hq4 : pGrps m t2 with
        | none =>
          rw [hq4] at h4
          simp only at h4 ⊢
          have : (allQ b).2.1 = true := by
            unfold allQ
            rw [h, h2]
            simp only
            rw [h3]; exact h4
          rw [this]; rfl
        | some r4 =>
          obtain ⟨gs, t3⟩ := r4
          rw [hq4] at h4
          simp only at h4 ⊢
          have e : allQ b = (⟨es, gs⟩, (false, t3)) := by
            unfold allQ
            rw [h, h2]
            simp only
            rw [h3]
            simp only
            rw [h4]
          rw [e]
          by_cases ht : t3 = []
          · subst ht
            simp only [if_true, List.length_nil, Nat.lt_irrefl, decide_false, Bool.or_false, Bool.false_or]
            cases validC ⟨es, gs⟩ <;> rfl
          · rw [if_neg ht]
            have : 0 < t3.length := List.length_pos_iff.2 ht
            simp [this]
end Go.Proofs.YtldkmclfhjcicaaGreatDoor

/- The program's Decode; the law's equal. -/
-- SIMP: beq_self_eq_true, Bool.and_self, rdO, fnO
namespace Go.Proofs.YtldkmclfhjcicaaGreatDoor
open Go.RowKit
set_option linter.unusedVariables false
set_option linter.unusedSimpArgs false
def rdO (st : Rd) : List (Nat × Ob) := [(1000000, .box 4 [.bool st.1]), (1000001, .box 27 [.sl 1 (bytesR st.2)])]
def fnO : List (Nat × Ob) := [(1000002, .box 43 [.fn (.func 43) [.ptr 1000000 0, .ptr 1000001 0]]), (1000003, .box 89 [.fn (.func 44) [.ptr 1000002 0]])]
theorem bytesR_rep (n : Nat) : List.replicate n [V.int .u8 0] = bytesR (List.replicate n 0) := by unfold bytesR; rw [List.map_replicate]; rfl
theorem bytesR_take (b : Bs) (n : Nat) : (bytesR b).take n = bytesR (b.take n) := by unfold bytesR; rw [List.map_take]
theorem bytesR_drop (b : Bs) (n : Nat) : (bytesR b).drop n = bytesR (b.drop n) := by unfold bytesR; rw [List.map_drop]
theorem takeR_t (b : Bs) (n : Nat) : takeR (true, b) n = (List.replicate n 0, (true, b)) := by simp [takeR]
theorem takeR_s {b : Bs} {n : Nat} (h : b.length < n) : takeR (false, b) n = (List.replicate n 0, (true, b)) := by simp [takeR, h]
theorem takeR_l {b : Bs} {n : Nat} (h : n ≤ b.length) : takeR (false, b) n = (b.take n, (false, b.drop n)) := by
  have : ¬ b.length < n := by omega
  simp [takeR, this]
set_option maxHeartbeats 4000000 in
set_option maxRecDepth 4000 in
theorem take_specB (st : Rd) (n : Nat) (hn : n ≤ 255) (hb : st.2.length ≤ 9223372036854775807) :
    SpecB Tryz.prog 43 [.int .i64 (n : Int), .ptr 1000000 0, .ptr 1000001 0] (rdO st) (.sl 1 (bytesR (takeR st n).1)) (rdO (takeR st n).2) := by
  obtain ⟨q, b⟩ := st
  have hb : b.length ≤ 9223372036854775807 := hb
  have bad : ∀ q', q' = true ∨ b.length < n → takeR (q', b) n = (List.replicate n 0, (true, b)) := fun q' h => by
    rcases h with rfl | h
    · exact takeR_t b n
    · cases q'
      · exact takeR_s h
      · exact takeR_t b n
  refine specB_of tt_ok Tryz.func43 rfl (by decide) Tryz.ntmps43 (congrArg Array.toList Tryz.results43) (by simp) (by decide) rfl (by simp only [go_sem, Int.reduceEq, Int.reduceNe, Int.reduceLT, Int.reduceLE, Nat.reduceEqDiff, Nat.reduceAdd, Nat.reduceMul, Nat.reduceLT, Nat.reduceLeDiff, Nat.reduceSub, reduceCtorEq, reduceIte, Int.reduceToNat, beq_self_eq_true, Bool.and_self, rdO, fnO]) (fun F hF => ?_)
  refine vwp_seq_k fun Na hNa => vreg tt_ok hF rfl ?_; simp only [go_sem, Int.reduceEq, Int.reduceNe, Int.reduceLT, Int.reduceLE, Nat.reduceEqDiff, Nat.reduceAdd, Nat.reduceMul, Nat.reduceLT, Nat.reduceLeDiff, Nat.reduceSub, reduceCtorEq, reduceIte, Int.reduceToNat, beq_self_eq_true, Bool.and_self, rdO, fnO]
  refine hNa _ (VWp.keep [0,1,2] [1000000,1000001] ?_); simp only [go_sem, Int.reduceEq, Int.reduceNe, Int.reduceLT, Int.reduceLE, Nat.reduceEqDiff, Nat.reduceAdd, Nat.reduceMul, Nat.reduceLT, Nat.reduceLeDiff, Nat.reduceSub, reduceCtorEq, reduceIte, Int.reduceToNat, beq_self_eq_true, Bool.and_self, rdO, fnO]
  refine vwp_seq_k fun Nb hNb => ?_
  refine vmeet (fun z : Bool => [(0, .int .i64 (n : Int)), (1, .ptr 1000000 0), (2, .ptr 1000001 0), (12, .bool z)]) (fun _ => [(1000000, .box 4 [.bool q]), (1000001, .box 27 [.sl 1 (bytesR b)])]) (fun z => z = (q || decide (b.length < n))) ?_ ?_
  · cases q
    · have f1 : decide (((bytesR b).length : Int) < (n : Int)) = decide (b.length < n) := by rw [bytesR_len]; apply decide_eq_decide.2; omega
      refine vreg tt_ok hF rfl ?_; simp only [go_sem, Int.reduceEq, Int.reduceNe, Int.reduceLT, Int.reduceLE, Nat.reduceEqDiff, Nat.reduceAdd, Nat.reduceMul, Nat.reduceLT, Nat.reduceLeDiff, Nat.reduceSub, reduceCtorEq, reduceIte, Int.reduceToNat, beq_self_eq_true, Bool.and_self, rdO, fnO, f1]
      exact ⟨_, rfl, by simp⟩
    · refine vreg tt_ok hF rfl ?_; simp only [go_sem, Int.reduceEq, Int.reduceNe, Int.reduceLT, Int.reduceLE, Nat.reduceEqDiff, Nat.reduceAdd, Nat.reduceMul, Nat.reduceLT, Nat.reduceLeDiff, Nat.reduceSub, reduceCtorEq, reduceIte, Int.reduceToNat, beq_self_eq_true, Bool.and_self, rdO, fnO]
      exact ⟨_, rfl, by simp⟩
  intro z hz
  refine vif rfl ⟨fun ht => ?_, fun hf => ?_⟩
  · have hbd : q = true ∨ b.length < n := by rw [ht] at hz; simpa using hz.symm
    rw [bad q hbd]
    refine vwp_seq_k fun Nd hNd => vreg tt_ok hF rfl ?_; simp only [go_sem, Int.reduceEq, Int.reduceNe, Int.reduceLT, Int.reduceLE, Nat.reduceEqDiff, Nat.reduceAdd, Nat.reduceMul, Nat.reduceLT, Nat.reduceLeDiff, Nat.reduceSub, reduceCtorEq, reduceIte, Int.reduceToNat, beq_self_eq_true, Bool.and_self, rdO, fnO]
    refine hNd _ (VWp.keepR [0] [1000000,1000001] tt_ok hF rfl fun Ne hNe => ?_); simp only [go_sem, Int.reduceEq, Int.reduceNe, Int.reduceLT, Int.reduceLE, Nat.reduceEqDiff, Nat.reduceAdd, Nat.reduceMul, Nat.reduceLT, Nat.reduceLeDiff, Nat.reduceSub, reduceCtorEq, reduceIte, Int.reduceToNat, beq_self_eq_true, Bool.and_self, rdO, fnO]
    refine ⟨⟨by omega, by omega, by omega⟩, ?_⟩
    refine hNe _ (VWp.keep [4] [14,1000000,1000001] ?_); simp only [go_sem, Int.reduceEq, Int.reduceNe, Int.reduceLT, Int.reduceLE, Nat.reduceEqDiff, Nat.reduceAdd, Nat.reduceMul, Nat.reduceLT, Nat.reduceLeDiff, Nat.reduceSub, reduceCtorEq, reduceIte, Int.reduceToNat, beq_self_eq_true, Bool.and_self, rdO, fnO]
    refine ⟨by simp, ?_⟩
    refine vwp_ret ?_
    simp only [go_sem, Int.reduceEq, Int.reduceNe, Int.reduceLT, Int.reduceLE, Nat.reduceEqDiff, Nat.reduceAdd, Nat.reduceMul, Nat.reduceLT, Nat.reduceLeDiff, Nat.reduceSub, reduceCtorEq, reduceIte, Int.reduceToNat, beq_self_eq_true, Bool.and_self, rdO, fnO, List.length_replicate]
    exact LeV.of_eq (by rw [bytesR_rep])
  · have hgd : q = false ∧ n ≤ b.length := by rw [hf] at hz; simpa using hz.symm
    obtain ⟨rfl, hgl⟩ := hgd
    refine vwp_skip (hNb _ ?_)
    refine vwp_seq_k fun Nf hNf => vreg tt_ok hF rfl ?_; simp only [go_sem, Int.reduceEq, Int.reduceNe, Int.reduceLT, Int.reduceLE, Nat.reduceEqDiff, Nat.reduceAdd, Nat.reduceMul, Nat.reduceLT, Nat.reduceLeDiff, Nat.reduceSub, reduceCtorEq, reduceIte, Int.reduceToNat, beq_self_eq_true, Bool.and_self, rdO, fnO]
    refine ⟨⟨by omega, by rw [bytesR_len]; omega⟩, ?_⟩
    refine hNf _ (VWp.keepR [0,2,5] [1000000,1000001] tt_ok hF rfl fun Ng hNg => ?_); simp only [go_sem, Int.reduceEq, Int.reduceNe, Int.reduceLT, Int.reduceLE, Nat.reduceEqDiff, Nat.reduceAdd, Nat.reduceMul, Nat.reduceLT, Nat.reduceLeDiff, Nat.reduceSub, reduceCtorEq, reduceIte, Int.reduceToNat, beq_self_eq_true, Bool.and_self, rdO, fnO]
    refine ⟨⟨by omega, by rw [bytesR_len]; omega⟩, ?_⟩
    refine hNg _ (VWp.keepR [5] [1000000,1000001] tt_ok hF rfl fun Nh hNh => ?_); simp only [go_sem, Int.reduceEq, Int.reduceNe, Int.reduceLT, Int.reduceLE, Nat.reduceEqDiff, Nat.reduceAdd, Nat.reduceMul, Nat.reduceLT, Nat.reduceLeDiff, Nat.reduceSub, reduceCtorEq, reduceIte, Int.reduceToNat, beq_self_eq_true, Bool.and_self, rdO, fnO]
    refine hNh _ (VWp.keep [4] [1000000,1000001] ?_); simp only [go_sem, Int.reduceEq, Int.reduceNe, Int.reduceLT, Int.reduceLE, Nat.reduceEqDiff, Nat.reduceAdd, Nat.reduceMul, Nat.reduceLT, Nat.reduceLeDiff, Nat.reduceSub, reduceCtorEq, reduceIte, Int.reduceToNat, beq_self_eq_true, Bool.and_self, rdO, fnO]
    refine vwp_ret ?_
    simp only [go_sem, Int.reduceEq, Int.reduceNe, Int.reduceLT, Int.reduceLE, Nat.reduceEqDiff, Nat.reduceAdd, Nat.reduceMul, Nat.reduceLT, Nat.reduceLeDiff, Nat.reduceSub, reduceCtorEq, reduceIte, Int.reduceToNat, beq_self_eq_true, Bool.and_self, rdO, fnO, takeR_l hgl]
    refine ⟨LeV.of_eq (by rw [bytesR_take]), ?_⟩
    rw [show (bytesR b).length = b.length from bytesR_len b, List.take_of_length_le (by rw [bytesR_len]; omega), bytesR_drop]
theorem takeR_len (st : Rd) (n : Nat) : (takeR st n).2.2.length ≤ st.2.length := by
  unfold takeR; split <;> simp
theorem takeR_one (st : Rd) : ∃ x, (takeR st 1).1 = [x] := by
  unfold takeR
  split
  · exact ⟨0, rfl⟩
  · rename_i h
    obtain ⟨q, b⟩ := st
    cases b with
    | nil => simp at h
    | cons x t => exact ⟨x, rfl⟩
theorem oneR_lt (st : Rd) : (oneR st).1 < 256 := by
  unfold oneR
  exact UInt8.toNat_lt _
theorem oneR_len (st : Rd) : (oneR st).2.2.length ≤ st.2.length := takeR_len st 1
set_option maxHeartbeats 4000000 in
set_option maxRecDepth 4000 in
theorem one_specB (st : Rd) (hb : st.2.length ≤ 9223372036854775807) :
    SpecB Tryz.prog 44 [.ptr 1000002 0] (rdO st ++ fnO) (.int .i64 ((oneR st).1 : Int)) (rdO (oneR st).2 ++ fnO) := by
  obtain ⟨x, hx⟩ := takeR_one st
  have h1 : (oneR st).1 = x.toNat := by unfold oneR; rw [hx]; rfl
  have hx8 : x.toNat < 256 := x.toNat_lt
  have hs := take_specB st 1 (by omega) hb
  rw [hx] at hs
  rw [h1]
  unfold oneR
  generalize (takeR st 1).2 = st2 at hs
  obtain ⟨q, b⟩ := st
  obtain ⟨q2, b2⟩ := st2
  simp only [rdO, bytesR, List.map_cons, List.map_nil] at hs
  refine specB_of tt_ok Tryz.func44 rfl (by decide) Tryz.ntmps44 (congrArg Array.toList Tryz.results44) (by simp) (by decide) rfl (by simp only [go_sem, Int.reduceEq, Int.reduceNe, Int.reduceLT, Int.reduceLE, Nat.reduceEqDiff, Nat.reduceAdd, Nat.reduceMul, Nat.reduceLT, Nat.reduceLeDiff, Nat.reduceSub, reduceCtorEq, reduceIte, Int.reduceToNat, beq_self_eq_true, Bool.and_self, rdO, fnO]) (fun F hF => ?_)
  refine vwp_seq_k fun Na hNa => vreg tt_ok hF rfl ?_; simp only [go_sem, Int.reduceEq, Int.reduceNe, Int.reduceLT, Int.reduceLE, Nat.reduceEqDiff, Nat.reduceAdd, Nat.reduceMul, Nat.reduceLT, Nat.reduceLeDiff, Nat.reduceSub, reduceCtorEq, reduceIte, Int.reduceToNat, beq_self_eq_true, Bool.and_self, rdO, fnO]
  refine hNa _ (VWp.keepR [0] [1000000,1000001,1000002,1000003] tt_ok hF rfl fun Nb hNb => ?_); simp only [go_sem, Int.reduceEq, Int.reduceNe, Int.reduceLT, Int.reduceLE, Nat.reduceEqDiff, Nat.reduceAdd, Nat.reduceMul, Nat.reduceLT, Nat.reduceLeDiff, Nat.reduceSub, reduceCtorEq, reduceIte, Int.reduceToNat, beq_self_eq_true, Bool.and_self, rdO, fnO]
  refine .inr (bxo [(1000000, 1000000), (1000001, 1000001)] rfl ?_); simp only [go_sem, Int.reduceEq, Int.reduceNe, Int.reduceLT, Int.reduceLE, Nat.reduceEqDiff, Nat.reduceAdd, Nat.reduceMul, Nat.reduceLT, Nat.reduceLeDiff, Nat.reduceSub, reduceCtorEq, reduceIte, Int.reduceToNat, beq_self_eq_true, Bool.and_self, rdO, fnO]; refine ⟨_, _, hs, ?_⟩; try simp only [go_sem, Int.reduceEq, Int.reduceNe, Int.reduceLT, Int.reduceLE, Nat.reduceEqDiff, Nat.reduceAdd, Nat.reduceMul, Nat.reduceLT, Nat.reduceLeDiff, Nat.reduceSub, reduceCtorEq, reduceIte, Int.reduceToNat, beq_self_eq_true, Bool.and_self, rdO, fnO]
  rw [wrap_i64 (by omega) (by omega)]
  refine hNb _ (VWp.keep [1] [1000000,1000001,1000002,1000003] ?_); simp only [go_sem, Int.reduceEq, Int.reduceNe, Int.reduceLT, Int.reduceLE, Nat.reduceEqDiff, Nat.reduceAdd, Nat.reduceMul, Nat.reduceLT, Nat.reduceLeDiff, Nat.reduceSub, reduceCtorEq, reduceIte, Int.reduceToNat, beq_self_eq_true, Bool.and_self, rdO, fnO]
  refine vwp_ret ?_
  simp only [go_sem, Int.reduceEq, Int.reduceNe, Int.reduceLT, Int.reduceLE, Nat.reduceEqDiff, Nat.reduceAdd, Nat.reduceMul, Nat.reduceLT, Nat.reduceLeDiff, Nat.reduceSub, reduceCtorEq, reduceIte, Int.reduceToNat, beq_self_eq_true, Bool.and_self, rdO, fnO]
  exact ⟨LeV.refl _, rfl⟩
theorem or_bytes (x y : Nat) (hx : x < 256) (hy : y < 256) : IntKind.i64.wrap (((BitVec.ofInt IntKind.i64.bits (IntKind.i64.wrap ((x : Int) * 2 ^ min (Int.toNat 8) IntKind.i64.bits)) ||| BitVec.ofInt IntKind.i64.bits (y : Int)).toNat : Nat) : Int) = ((256 * x + y : Nat) : Int) := by
  have e1 : IntKind.i64.wrap ((x : Int) * 2 ^ min (Int.toNat 8) IntKind.i64.bits) = ((2 ^ 8 * x : Nat) : Int) := by
    rw [show min (Int.toNat 8) IntKind.i64.bits = 8 by rfl, wrap_i64 (by omega) (by omega)]; omega
  have e2 : (BitVec.ofInt IntKind.i64.bits ((2 ^ 8 * x : Nat) : Int) ||| BitVec.ofInt IntKind.i64.bits (y : Int)).toNat = 2 ^ 8 * x + y := by
    rw [BitVec.toNat_or, BitVec.toNat_ofInt, BitVec.toNat_ofInt, show IntKind.i64.bits = 64 from rfl]
    rw [show (((2 ^ 8 * x : Nat) : Int) % (2 ^ 64 : Nat)).toNat = 2 ^ 8 * x by omega, show ((y : Int) % (2 ^ 64 : Nat)).toNat = y by omega]
    exact (Nat.two_pow_add_eq_or_of_lt (by omega) x).symm
  rw [e1, e2, wrap_i64 (by omega) (by omega)]
set_option maxHeartbeats 4000000 in
set_option maxRecDepth 4000 in
theorem pair_specB (st : Rd) (hb : st.2.length ≤ 9223372036854775807) :
    SpecB Tryz.prog 45 [.ptr 1000003 0] (rdO st ++ fnO) (.int .i64 ((twoR st).1 : Int)) (rdO (twoR st).2 ++ fnO) := by
  have h1 := one_specB st hb
  have l1 := oneR_lt st
  have g1 := oneR_len st
  unfold twoR
  generalize oneR st = z1 at h1 l1 g1
  obtain ⟨x, st2⟩ := z1
  have h2 := one_specB st2 (by simp only at g1; omega)
  have l2 := oneR_lt st2
  simp only at h1 l1 g1 ⊢
  generalize oneR st2 = z2 at h2 l2
  obtain ⟨y, st3⟩ := z2
  obtain ⟨q, b⟩ := st
  obtain ⟨q2, b2⟩ := st2
  obtain ⟨q3, b3⟩ := st3
  have hor := or_bytes x y l1 l2
  simp only [rdO, fnO, List.cons_append, List.nil_append] at h1 h2 ⊢
  refine specB_of tt_ok Tryz.func45 rfl (by decide) Tryz.ntmps45 (congrArg Array.toList Tryz.results45) (by simp) (by decide) rfl (by simp only [go_sem, Int.reduceEq, Int.reduceNe, Int.reduceLT, Int.reduceLE, Nat.reduceEqDiff, Nat.reduceAdd, Nat.reduceMul, Nat.reduceLT, Nat.reduceLeDiff, Nat.reduceSub, reduceCtorEq, reduceIte, Int.reduceToNat, beq_self_eq_true, Bool.and_self, rdO, fnO]) (fun F hF => ?_)
  refine vwp_seq_k fun Na hNa => vreg tt_ok hF rfl ?_; simp only [go_sem, Int.reduceEq, Int.reduceNe, Int.reduceLT, Int.reduceLE, Nat.reduceEqDiff, Nat.reduceAdd, Nat.reduceMul, Nat.reduceLT, Nat.reduceLeDiff, Nat.reduceSub, reduceCtorEq, reduceIte, Int.reduceToNat, beq_self_eq_true, Bool.and_self, rdO, fnO]
  refine hNa _ (VWp.keep [0] [1000000,1000001,1000002,1000003] ?_); simp only [go_sem, Int.reduceEq, Int.reduceNe, Int.reduceLT, Int.reduceLE, Nat.reduceEqDiff, Nat.reduceAdd, Nat.reduceMul, Nat.reduceLT, Nat.reduceLeDiff, Nat.reduceSub, reduceCtorEq, reduceIte, Int.reduceToNat, beq_self_eq_true, Bool.and_self, rdO, fnO]
  refine vmeet (fun _ : Unit => [(1, .int .i64 ((256 * x + y : Nat) : Int))]) (fun _ => rdO (q3, b3) ++ fnO) (fun _ => True) ?_ ?_
  · refine vregord tt_ok mixed hF rfl .all [[0, 1, 2, 3, 4, 5, 6], [0, 3, 1, 2, 4, 5, 6]] [(3, (.int .i64 (x : Int), rdO (q2, b2) ++ fnO)), (6, (.int .i64 (y : Int), rdO (q3, b3) ++ fnO))] (by kernel_rfl) ⟨?_, ?_, trivial⟩ <;> simp only [pickL, go_sem, Int.reduceEq, Int.reduceNe, Int.reduceLT, Int.reduceLE, Nat.reduceEqDiff, Nat.reduceAdd, Nat.reduceMul, Nat.reduceLT, Nat.reduceLeDiff, Nat.reduceSub, reduceCtorEq, reduceIte, Int.reduceToNat, beq_self_eq_true, Bool.and_self, rdO, fnO]
    all_goals
      refine .inr (bxo [(1000000, 1000000), (1000001, 1000001), (1000002, 1000002), (1000003, 1000003)] rfl ?_); simp only [go_sem, Int.reduceEq, Int.reduceNe, Int.reduceLT, Int.reduceLE, Nat.reduceEqDiff, Nat.reduceAdd, Nat.reduceMul, Nat.reduceLT, Nat.reduceLeDiff, Nat.reduceSub, reduceCtorEq, reduceIte, Int.reduceToNat, beq_self_eq_true, Bool.and_self, rdO, fnO]; refine ⟨_, _, h1, ?_⟩; try simp only [go_sem, Int.reduceEq, Int.reduceNe, Int.reduceLT, Int.reduceLE, Nat.reduceEqDiff, Nat.reduceAdd, Nat.reduceMul, Nat.reduceLT, Nat.reduceLeDiff, Nat.reduceSub, reduceCtorEq, reduceIte, Int.reduceToNat, beq_self_eq_true, Bool.and_self, rdO, fnO]
      refine ⟨rfl, ?_⟩
      refine .inr (bxo [(1000000, 1000000), (1000001, 1000001), (1000002, 1000002), (1000003, 1000003)] rfl ?_); simp only [go_sem, Int.reduceEq, Int.reduceNe, Int.reduceLT, Int.reduceLE, Nat.reduceEqDiff, Nat.reduceAdd, Nat.reduceMul, Nat.reduceLT, Nat.reduceLeDiff, Nat.reduceSub, reduceCtorEq, reduceIte, Int.reduceToNat, beq_self_eq_true, Bool.and_self, rdO, fnO]; refine ⟨_, _, h2, ?_⟩; try simp only [go_sem, Int.reduceEq, Int.reduceNe, Int.reduceLT, Int.reduceLE, Nat.reduceEqDiff, Nat.reduceAdd, Nat.reduceMul, Nat.reduceLT, Nat.reduceLeDiff, Nat.reduceSub, reduceCtorEq, reduceIte, Int.reduceToNat, beq_self_eq_true, Bool.and_self, rdO, fnO]
      refine ⟨rfl, ?_⟩
      exact ⟨(), congrArg (V.int .i64) hor⟩
  intro _ _
  simp only [go_sem, Int.reduceEq, Int.reduceNe, Int.reduceLT, Int.reduceLE, Nat.reduceEqDiff, Nat.reduceAdd, Nat.reduceMul, Nat.reduceLT, Nat.reduceLeDiff, Nat.reduceSub, reduceCtorEq, reduceIte, Int.reduceToNat, beq_self_eq_true, Bool.and_self, rdO, fnO]
  refine vwp_ret ?_
  simp only [go_sem, Int.reduceEq, Int.reduceNe, Int.reduceLT, Int.reduceLE, Nat.reduceEqDiff, Nat.reduceAdd, Nat.reduceMul, Nat.reduceLT, Nat.reduceLeDiff, Nat.reduceSub, reduceCtorEq, reduceIte, Int.reduceToNat, beq_self_eq_true, Bool.and_self, rdO, fnO]
  exact LeV.refl _
end Go.Proofs.YtldkmclfhjcicaaGreatDoor

/- The program's Decode. -/
-- SIMP: beq_self_eq_true, Bool.and_self, rdO, fnO, dO, dT, dT2
namespace Go.Proofs.YtldkmclfhjcicaaGreatDoor
open Go.RowKit
set_option linter.unusedVariables false
set_option linter.unusedSimpArgs false
theorem pair_lt (st : Rd) : (twoR st).1 < 65536 := by
  have h1 := oneR_lt st
  have h2 := oneR_lt (oneR st).2
  unfold twoR; simp only; omega
theorem pair_len (st : Rd) : (twoR st).2.2.length ≤ st.2.length := by
  have h1 := oneR_len st
  have h2 := oneR_len (oneR st).2
  unfold twoR; simp only; omega
def dO (st : Rd) : List (Nat × Ob) := [(4, .box 4 [.bool st.1]), (1, .box 27 [.sl 1 (bytesR st.2)]), (5, .box 43 [.fn (.func 43) [.ptr 4 0, .ptr 1 0]]), (6, .box 89 [.fn (.func 44) [.ptr 5 0]])]
def dT : List (Nat × V) := [(1, .ptr 1 0), (2, .ptr 2 0), (4, .ptr 4 0), (5, .ptr 5 0), (6, .ptr 6 0), (7, .fn (.func 45) [.ptr 6 0]), (8, .ptr 8 0)]
def dT2 : List (Nat × V) := [(1, .ptr 1 0), (2, .ptr 2 0), (4, .ptr 4 0), (5, .ptr 5 0), (6, .ptr 6 0), (8, .ptr 8 0)]
theorem entsR_step (m : Nat) (st : Rd) (h : st.1 = false) : entsR (m + 1) st = ((entR st).1 :: (entsR m (entR st).2).1, (entsR m (entR st).2).2) := by
  simp only [entsR, h, Bool.false_eq_true, if_false]
theorem entsR_stop (m : Nat) (st : Rd) (h : m = 0 ∨ st.1 = true) : entsR m st = ([], st) := by
  cases m with
  | zero => rfl
  | succ m => rcases h with h | h; cases h; unfold entsR; rw [if_pos h]
theorem grpsR_step (m : Nat) (st : Rd) (h : st.1 = false) : grpsR (m + 1) st = ((grpR st).1 :: (grpsR m (grpR st).2).1, (grpsR m (grpR st).2).2) := by
  simp only [grpsR, h, Bool.false_eq_true, if_false]
theorem grpsR_stop (m : Nat) (st : Rd) (h : m = 0 ∨ st.1 = true) : grpsR m st = ([], st) := by
  cases m with
  | zero => rfl
  | succ m => rcases h with h | h; cases h; unfold grpsR; rw [if_pos h]
theorem txtR_len (st : Rd) : (txtR st).2.2.length ≤ st.2.length := by
  have h1 := oneR_len st
  have h2 := takeR_len (oneR st).2 (oneR st).1
  unfold txtR; omega
set_option maxHeartbeats 8000000 in
set_option maxRecDepth 4000 in
theorem Decode_spec (b : Bs) (hb : b.length ≤ 9223372036854775807) : Spec Tryz.prog 17 [.sl 1 (bytesR b)] (.tup [catV (decC b).1, .int .i64 (decC b).2]) := by
  obtain ⟨n1, st1, e1⟩ : ∃ n st, twoR (false, b) = (n, st) := ⟨_, _, rfl⟩
  have hp1 := pair_specB (false, b) hb
  have n1lt := pair_lt (false, b)
  have st1le := pair_len (false, b)
  rw [e1] at hp1 n1lt st1le
  simp only at n1lt st1le
  obtain ⟨ES, S1, eE⟩ : ∃ l st, entsR n1 st1 = (l, st) := ⟨_, _, rfl⟩
  refine spec_of tt_ok Tryz.func17 rfl (by decide) Tryz.ntmps17 (congrArg Array.toList Tryz.results17) (by simp) (by decide) rfl rfl (fun F hF => ?_)
  refine vwp_seq_k fun Na hNa => vreg tt_ok hF rfl ?_; simp only [go_sem, Int.reduceEq, Int.reduceNe, Int.reduceLT, Int.reduceLE, Nat.reduceEqDiff, Nat.reduceAdd, Nat.reduceMul, Nat.reduceLT, Nat.reduceLeDiff, Nat.reduceSub, reduceCtorEq, reduceIte, Int.reduceToNat, beq_self_eq_true, Bool.and_self, rdO, fnO, dO, dT, dT2]
  refine hNa _ (VWp.keepR [1,2] [1,2] tt_ok hF rfl fun Nb hNb => ?_); simp only [go_sem, Int.reduceEq, Int.reduceNe, Int.reduceLT, Int.reduceLE, Nat.reduceEqDiff, Nat.reduceAdd, Nat.reduceMul, Nat.reduceLT, Nat.reduceLeDiff, Nat.reduceSub, reduceCtorEq, reduceIte, Int.reduceToNat, beq_self_eq_true, Bool.and_self, rdO, fnO, dO, dT, dT2]
  refine hNb _ (VWp.keepR [1,2,4] [1,2,4] tt_ok hF rfl fun Nc hNc => ?_); simp only [go_sem, Int.reduceEq, Int.reduceNe, Int.reduceLT, Int.reduceLE, Nat.reduceEqDiff, Nat.reduceAdd, Nat.reduceMul, Nat.reduceLT, Nat.reduceLeDiff, Nat.reduceSub, reduceCtorEq, reduceIte, Int.reduceToNat, beq_self_eq_true, Bool.and_self, rdO, fnO, dO, dT, dT2]
  refine hNc _ (VWp.keepR [1,2,4,5] [1,2,4,5] tt_ok hF rfl fun Nd hNd => ?_); simp only [go_sem, Int.reduceEq, Int.reduceNe, Int.reduceLT, Int.reduceLE, Nat.reduceEqDiff, Nat.reduceAdd, Nat.reduceMul, Nat.reduceLT, Nat.reduceLeDiff, Nat.reduceSub, reduceCtorEq, reduceIte, Int.reduceToNat, beq_self_eq_true, Bool.and_self, rdO, fnO, dO, dT, dT2]
  refine hNd _ (VWp.keepR [1,2,4,5,6] [1,2,4,5,6] tt_ok hF rfl fun Ne hNe => ?_); simp only [go_sem, Int.reduceEq, Int.reduceNe, Int.reduceLT, Int.reduceLE, Nat.reduceEqDiff, Nat.reduceAdd, Nat.reduceMul, Nat.reduceLT, Nat.reduceLeDiff, Nat.reduceSub, reduceCtorEq, reduceIte, Int.reduceToNat, beq_self_eq_true, Bool.and_self, rdO, fnO, dO, dT, dT2]
  refine hNe _ (VWp.keepR [1,2,4,5,6,7] [1,2,4,5,6] tt_ok hF rfl fun Nf hNf => ?_); simp only [go_sem, Int.reduceEq, Int.reduceNe, Int.reduceLT, Int.reduceLE, Nat.reduceEqDiff, Nat.reduceAdd, Nat.reduceMul, Nat.reduceLT, Nat.reduceLeDiff, Nat.reduceSub, reduceCtorEq, reduceIte, Int.reduceToNat, beq_self_eq_true, Bool.and_self, rdO, fnO, dO, dT, dT2]
  refine hNf _ (VWp.keep [1,2,4,5,6,7,8] [1,2,4,5,6,8] ?_); simp only [go_sem, Int.reduceEq, Int.reduceNe, Int.reduceLT, Int.reduceLE, Nat.reduceEqDiff, Nat.reduceAdd, Nat.reduceMul, Nat.reduceLT, Nat.reduceLeDiff, Nat.reduceSub, reduceCtorEq, reduceIte, Int.reduceToNat, beq_self_eq_true, Bool.and_self, rdO, fnO, dO, dT, dT2]
  refine vwp_seq_k fun Ng hNg => ?_
  refine vwp_seq_k fun Nh hNh => vreg tt_ok hF rfl ?_; simp only [go_sem, Int.reduceEq, Int.reduceNe, Int.reduceLT, Int.reduceLE, Nat.reduceEqDiff, Nat.reduceAdd, Nat.reduceMul, Nat.reduceLT, Nat.reduceLeDiff, Nat.reduceSub, reduceCtorEq, reduceIte, Int.reduceToNat, beq_self_eq_true, Bool.and_self, rdO, fnO, dO, dT, dT2]
  simp only [rdO, fnO, List.cons_append, List.nil_append] at hp1
  refine .inr (bxo [(1000000, 4), (1000001, 1), (1000002, 5), (1000003, 6)] rfl ?_); simp only [go_sem, Int.reduceEq, Int.reduceNe, Int.reduceLT, Int.reduceLE, Nat.reduceEqDiff, Nat.reduceAdd, Nat.reduceMul, Nat.reduceLT, Nat.reduceLeDiff, Nat.reduceSub, reduceCtorEq, reduceIte, Int.reduceToNat, beq_self_eq_true, Bool.and_self, rdO, fnO, dO, dT, dT2]; refine ⟨_, _, hp1, ?_⟩; try simp only [go_sem, Int.reduceEq, Int.reduceNe, Int.reduceLT, Int.reduceLE, Nat.reduceEqDiff, Nat.reduceAdd, Nat.reduceMul, Nat.reduceLT, Nat.reduceLeDiff, Nat.reduceSub, reduceCtorEq, reduceIte, Int.reduceToNat, beq_self_eq_true, Bool.and_self, rdO, fnO, dO, dT, dT2]
  refine hNh _ (VWp.keep [1,2,4,5,6,7,8,9] [1,2,4,5,6,8] ?_); simp only [go_sem, Int.reduceEq, Int.reduceNe, Int.reduceLT, Int.reduceLE, Nat.reduceEqDiff, Nat.reduceAdd, Nat.reduceMul, Nat.reduceLT, Nat.reduceLeDiff, Nat.reduceSub, reduceCtorEq, reduceIte, Int.reduceToNat, beq_self_eq_true, Bool.and_self, rdO, fnO, dO, dT, dT2]
  refine VWp.adoptB 86 4 45 (o := 8) (i := 0) rfl rfl rfl (by decide) ?_
  refine VWp.keep [1,2,4,5,6,7,8,9] [4,1,5,6,2,8,86] ?_; simp only [go_sem, Int.reduceEq, Int.reduceNe, Int.reduceLT, Int.reduceLE, Nat.reduceEqDiff, Nat.reduceAdd, Nat.reduceMul, Nat.reduceLT, Nat.reduceLeDiff, Nat.reduceSub, reduceCtorEq, reduceIte, Int.reduceToNat, beq_self_eq_true, Bool.and_self, rdO, fnO, dO, dT, dT2]
  refine vwp_block (vloop (fun z : Nat × Rd × List Ent => dT ++ [(9, .int .i64 (z.1 : Int))])
    (fun z => dO z.2.1 ++ [(2, .box 25 [.nil, .nil]), (8, .box 25 [.own 86 z.2.2.length, .nil]), (86, .arr 4 45 (z.2.2.map entC))])
    (fun z => z.2.2 ++ (entsR z.1 z.2.1).1 = ES ∧ (entsR z.1 z.2.1).2 = S1 ∧ z.2.1.2.length ≤ b.length ∧ z.1 + z.2.2.length ≤ 65535) (fun z => z.1) (n1, st1, [])
    ⟨by rw [eE]; rfl, by rw [eE], st1le, by simp; omega⟩ (by simp only [go_sem, Int.reduceEq, Int.reduceNe, Int.reduceLT, Int.reduceLE, Nat.reduceEqDiff, Nat.reduceAdd, Nat.reduceMul, Nat.reduceLT, Nat.reduceLeDiff, Nat.reduceSub, reduceCtorEq, reduceIte, Int.reduceToNat, beq_self_eq_true, Bool.and_self, rdO, fnO, dO, dT, dT2, dT, List.cons_append, List.nil_append]) ?_)
  rintro ⟨m, ⟨q, c⟩, acc⟩ ⟨i1, i2, i3, i4⟩
  have i1 : acc ++ (entsR m (q, c)).1 = ES := i1
  have i2 : (entsR m (q, c)).2 = S1 := i2
  have i3 : c.length ≤ b.length := i3
  have i4 : m + acc.length ≤ 65535 := i4
  simp only [dT, dO, List.cons_append, List.nil_append]
  refine vwp_seq_k fun Ni hNi => ?_
  refine vmeet (fun z : Bool => dT ++ [(9, .int .i64 (m : Int)), (23, .bool z)])
    (fun _ => dO (q, c) ++ [(2, .box 25 [.nil, .nil]), (8, .box 25 [.own 86 acc.length, .nil]), (86, .arr 4 45 (acc.map entC))]) (fun z => z = (decide (0 < m) && !q)) ?_ ?_
  · by_cases hm : 0 < m
    · have f1 : decide ((0 : Int) < (m : Int)) = true := decide_eq_true (by omega)
      refine vreg tt_ok hF rfl ?_; simp only [go_sem, Int.reduceEq, Int.reduceNe, Int.reduceLT, Int.reduceLE, Nat.reduceEqDiff, Nat.reduceAdd, Nat.reduceMul, Nat.reduceLT, Nat.reduceLeDiff, Nat.reduceSub, reduceCtorEq, reduceIte, Int.reduceToNat, beq_self_eq_true, Bool.and_self, rdO, fnO, dO, dT, dT2, f1]
      exact ⟨_, rfl, by simp [hm]⟩
    · have f1 : decide ((0 : Int) < (m : Int)) = false := decide_eq_false (by omega)
      refine vreg tt_ok hF rfl ?_; simp only [go_sem, Int.reduceEq, Int.reduceNe, Int.reduceLT, Int.reduceLE, Nat.reduceEqDiff, Nat.reduceAdd, Nat.reduceMul, Nat.reduceLT, Nat.reduceLeDiff, Nat.reduceSub, reduceCtorEq, reduceIte, Int.reduceToNat, beq_self_eq_true, Bool.and_self, rdO, fnO, dO, dT, dT2, f1]
      exact ⟨_, rfl, by simp [hm]⟩
  intro z hz
  simp only [dT, dO, List.cons_append, List.nil_append]
  refine vif rfl ⟨fun ht => ?_, fun hf => ?_⟩
  · rw [ht] at hz
    have hz := Bool.and_eq_true_iff.1 hz.symm
    have hm0 : 0 < m := of_decide_eq_true hz.1
    have hq : q = false := by simpa using hz.2
    subst hq
    obtain ⟨m, rfl⟩ : ∃ k, m = k + 1 := ⟨m - 1, by omega⟩
    rw [entsR_step m (false, c) rfl] at i1 i2
    simp only at i1 i2
    -- the reads
    have o1 := one_specB (false, c) (by show c.length ≤ _; omega)
    have k1 := oneR_lt (false, c)
    have g1 := oneR_len (false, c)
    have hE : entR (false, c) = entR (false, c) := rfl
    conv at hE => rhs; unfold entR txtR
    generalize oneR (false, c) = z1 at o1 k1 g1 hE
    obtain ⟨x1, s1⟩ := z1
    have o2 := take_specB s1 x1 (by omega) (by simp only at g1; omega)
    have g2 := takeR_len s1 x1
    simp only at o1 k1 g1 hE
    generalize takeR s1 x1 = z2 at o2 g2 hE
    obtain ⟨nm, s2⟩ := z2
    have o3 := one_specB s2 (by simp only at g2; omega)
    have g3 := oneR_len s2
    simp only at o2 g2 hE
    generalize oneR s2 = z3 at o3 g3 hE
    obtain ⟨un, s3⟩ := z3
    have o4 := one_specB s3 (by simp only at g3; omega)
    have k4 := oneR_lt s3
    have g4 := oneR_len s3
    simp only at o3 g3 hE
    generalize oneR s3 = z4 at o4 k4 g4 hE
    obtain ⟨x4, s4⟩ := z4
    have o5 := take_specB s4 x4 (by omega) (by simp only at g4; omega)
    have g5 := takeR_len s4 x4
    simp only at o4 k4 g4 hE
    generalize takeR s4 x4 = z5 at o5 g5 hE
    obtain ⟨sr, s5⟩ := z5
    have o6 := pair_specB s5 (by simp only at g5; omega)
    have g6 := pair_len s5
    simp only at o5 g5 hE
    generalize twoR s5 = z6 at o6 g6 hE
    obtain ⟨fl, s6⟩ := z6
    simp only at o6 g6 hE
    rw [hE] at i1 i2
    simp only at i1 i2
    obtain ⟨p1, b1⟩ := s1
    obtain ⟨p2, b2⟩ := s2
    obtain ⟨p3, b3⟩ := s3
    obtain ⟨p4, b4⟩ := s4
    obtain ⟨p5, b5⟩ := s5
    obtain ⟨p6, b6⟩ := s6
    simp only [rdO, fnO, List.cons_append, List.nil_append] at o1 o2 o3 o4 o5 o6
    refine vwp_skip (hNi _ ?_)
    refine vwp_seq_k fun Nj hNj => ?_
    refine vwp_block ?_
    refine vmeet (fun _ : Unit => dT ++ [(9, .int .i64 ((m + 1 : Nat) : Int)), (10, .ptr 10 0)])
      (fun _ => dO (p2, b2) ++ [(2, .box 25 [.nil, .nil]), (8, .box 25 [.own 86 acc.length, .nil]), (86, .arr 4 45 (acc.map entC)), (10, .box 45 [.str nm, .int .i64 0, .str [], .int .i64 0])]) (fun _ => True) ?_ ?_
    · refine vregord tt_ok mixed hF rfl .all [[0, 1, 2, 3, 4, 5, 6, 7], [0, 1, 2, 6, 3, 4, 5, 7], [0, 1, 6, 2, 3, 4, 5, 7], [1, 2, 0, 3, 4, 5, 6, 7], [1, 2, 0, 6, 3, 4, 5, 7], [1, 6, 2, 0, 3, 4, 5, 7]]
        [(28, (.int .i64 (x1 : Int), dO (p1, b1))), (29, (.sl 1 (bytesR nm), [(4, .box 4 [.bool p2]), (1, .box 27 [.sl 1 (bytesR b2)])]))] (by kernel_rfl) ⟨?_, ?_, ?_, ?_, ?_, ?_, trivial⟩ <;> simp only [pickL, go_sem, Int.reduceEq, Int.reduceNe, Int.reduceLT, Int.reduceLE, Nat.reduceEqDiff, Nat.reduceAdd, Nat.reduceMul, Nat.reduceLT, Nat.reduceLeDiff, Nat.reduceSub, reduceCtorEq, reduceIte, Int.reduceToNat, beq_self_eq_true, Bool.and_self, rdO, fnO, dO, dT, dT2]
      all_goals
        refine .inr (bxo [(1000000, 4), (1000001, 1), (1000002, 5), (1000003, 6)] rfl ?_); simp only [go_sem, Int.reduceEq, Int.reduceNe, Int.reduceLT, Int.reduceLE, Nat.reduceEqDiff, Nat.reduceAdd, Nat.reduceMul, Nat.reduceLT, Nat.reduceLeDiff, Nat.reduceSub, reduceCtorEq, reduceIte, Int.reduceToNat, beq_self_eq_true, Bool.and_self, rdO, fnO, dO, dT, dT2]; refine ⟨_, _, o1, ?_⟩; try simp only [go_sem, Int.reduceEq, Int.reduceNe, Int.reduceLT, Int.reduceLE, Nat.reduceEqDiff, Nat.reduceAdd, Nat.reduceMul, Nat.reduceLT, Nat.reduceLeDiff, Nat.reduceSub, reduceCtorEq, reduceIte, Int.reduceToNat, beq_self_eq_true, Bool.and_self, rdO, fnO, dO, dT, dT2]
        refine ⟨rfl, ?_⟩
        refine .inr (bxo [(1000000, 4), (1000001, 1)] rfl ?_); simp only [go_sem, Int.reduceEq, Int.reduceNe, Int.reduceLT, Int.reduceLE, Nat.reduceEqDiff, Nat.reduceAdd, Nat.reduceMul, Nat.reduceLT, Nat.reduceLeDiff, Nat.reduceSub, reduceCtorEq, reduceIte, Int.reduceToNat, beq_self_eq_true, Bool.and_self, rdO, fnO, dO, dT, dT2]; refine ⟨_, _, o2, ?_⟩; try simp only [go_sem, Int.reduceEq, Int.reduceNe, Int.reduceLT, Int.reduceLE, Nat.reduceEqDiff, Nat.reduceAdd, Nat.reduceMul, Nat.reduceLT, Nat.reduceLeDiff, Nat.reduceSub, reduceCtorEq, reduceIte, Int.reduceToNat, beq_self_eq_true, Bool.and_self, rdO, fnO, dO, dT, dT2]
        refine ⟨rfl, ?_⟩
        exact ⟨(), by simp⟩
    intro _ _
    simp only [dT, dO, List.cons_append, List.nil_append]
    refine vwp_seq_k fun Nm hNm => vreg tt_ok hF rfl ?_; simp only [go_sem, Int.reduceEq, Int.reduceNe, Int.reduceLT, Int.reduceLE, Nat.reduceEqDiff, Nat.reduceAdd, Nat.reduceMul, Nat.reduceLT, Nat.reduceLeDiff, Nat.reduceSub, reduceCtorEq, reduceIte, Int.reduceToNat, beq_self_eq_true, Bool.and_self, rdO, fnO, dO, dT, dT2]
    refine .inr (bxo [(1000000, 4), (1000001, 1), (1000002, 5), (1000003, 6)] rfl ?_); simp only [go_sem, Int.reduceEq, Int.reduceNe, Int.reduceLT, Int.reduceLE, Nat.reduceEqDiff, Nat.reduceAdd, Nat.reduceMul, Nat.reduceLT, Nat.reduceLeDiff, Nat.reduceSub, reduceCtorEq, reduceIte, Int.reduceToNat, beq_self_eq_true, Bool.and_self, rdO, fnO, dO, dT, dT2]; refine ⟨_, _, o3, ?_⟩; try simp only [go_sem, Int.reduceEq, Int.reduceNe, Int.reduceLT, Int.reduceLE, Nat.reduceEqDiff, Nat.reduceAdd, Nat.reduceMul, Nat.reduceLT, Nat.reduceLeDiff, Nat.reduceSub, reduceCtorEq, reduceIte, Int.reduceToNat, beq_self_eq_true, Bool.and_self, rdO, fnO, dO, dT, dT2]
    refine hNm _ (VWp.keep [1,2,4,5,6,7,8,9,10] [4,1,5,6,2,8,86,10] ?_); simp only [go_sem, Int.reduceEq, Int.reduceNe, Int.reduceLT, Int.reduceLE, Nat.reduceEqDiff, Nat.reduceAdd, Nat.reduceMul, Nat.reduceLT, Nat.reduceLeDiff, Nat.reduceSub, reduceCtorEq, reduceIte, Int.reduceToNat, beq_self_eq_true, Bool.and_self, rdO, fnO, dO, dT, dT2]
    refine vmeet (fun _ : Unit => dT ++ [(9, .int .i64 ((m + 1 : Nat) : Int)), (10, .ptr 10 0)])
      (fun _ => dO (p5, b5) ++ [(2, .box 25 [.nil, .nil]), (8, .box 25 [.own 86 acc.length, .nil]), (86, .arr 4 45 (acc.map entC)), (10, .box 45 [.str nm, .int .i64 (un : Int), .str sr, .int .i64 0])]) (fun _ => True) ?_ ?_
    · refine vregord tt_ok mixed hF rfl .all [[0, 1, 2, 3, 4, 5, 6], [1, 2, 0, 3, 4, 5, 6]]
        [(37, (.int .i64 (x4 : Int), dO (p4, b4))), (38, (.sl 1 (bytesR sr), [(4, .box 4 [.bool p5]), (1, .box 27 [.sl 1 (bytesR b5)])]))] (by kernel_rfl) ⟨?_, ?_, trivial⟩ <;> simp only [pickL, go_sem, Int.reduceEq, Int.reduceNe, Int.reduceLT, Int.reduceLE, Nat.reduceEqDiff, Nat.reduceAdd, Nat.reduceMul, Nat.reduceLT, Nat.reduceLeDiff, Nat.reduceSub, reduceCtorEq, reduceIte, Int.reduceToNat, beq_self_eq_true, Bool.and_self, rdO, fnO, dO, dT, dT2]
      all_goals
        refine .inr (bxo [(1000000, 4), (1000001, 1), (1000002, 5), (1000003, 6)] rfl ?_); simp only [go_sem, Int.reduceEq, Int.reduceNe, Int.reduceLT, Int.reduceLE, Nat.reduceEqDiff, Nat.reduceAdd, Nat.reduceMul, Nat.reduceLT, Nat.reduceLeDiff, Nat.reduceSub, reduceCtorEq, reduceIte, Int.reduceToNat, beq_self_eq_true, Bool.and_self, rdO, fnO, dO, dT, dT2]; refine ⟨_, _, o4, ?_⟩; try simp only [go_sem, Int.reduceEq, Int.reduceNe, Int.reduceLT, Int.reduceLE, Nat.reduceEqDiff, Nat.reduceAdd, Nat.reduceMul, Nat.reduceLT, Nat.reduceLeDiff, Nat.reduceSub, reduceCtorEq, reduceIte, Int.reduceToNat, beq_self_eq_true, Bool.and_self, rdO, fnO, dO, dT, dT2]
        refine ⟨rfl, ?_⟩
        refine .inr (bxo [(1000000, 4), (1000001, 1)] rfl ?_); simp only [go_sem, Int.reduceEq, Int.reduceNe, Int.reduceLT, Int.reduceLE, Nat.reduceEqDiff, Nat.reduceAdd, Nat.reduceMul, Nat.reduceLT, Nat.reduceLeDiff, Nat.reduceSub, reduceCtorEq, reduceIte, Int.reduceToNat, beq_self_eq_true, Bool.and_self, rdO, fnO, dO, dT, dT2]; refine ⟨_, _, o5, ?_⟩; try simp only [go_sem, Int.reduceEq, Int.reduceNe, Int.reduceLT, Int.reduceLE, Nat.reduceEqDiff, Nat.reduceAdd, Nat.reduceMul, Nat.reduceLT, Nat.reduceLeDiff, Nat.reduceSub, reduceCtorEq, reduceIte, Int.reduceToNat, beq_self_eq_true, Bool.and_self, rdO, fnO, dO, dT, dT2]
        refine ⟨rfl, ?_⟩
        exact ⟨(), by simp⟩
    intro _ _
    simp only [dT, dO, List.cons_append, List.nil_append]
    refine vwp_seq_k fun No hNo => vreg tt_ok hF rfl ?_; simp only [go_sem, Int.reduceEq, Int.reduceNe, Int.reduceLT, Int.reduceLE, Nat.reduceEqDiff, Nat.reduceAdd, Nat.reduceMul, Nat.reduceLT, Nat.reduceLeDiff, Nat.reduceSub, reduceCtorEq, reduceIte, Int.reduceToNat, beq_self_eq_true, Bool.and_self, rdO, fnO, dO, dT, dT2]
    refine .inr (bxo [(1000000, 4), (1000001, 1), (1000002, 5), (1000003, 6)] rfl ?_); simp only [go_sem, Int.reduceEq, Int.reduceNe, Int.reduceLT, Int.reduceLE, Nat.reduceEqDiff, Nat.reduceAdd, Nat.reduceMul, Nat.reduceLT, Nat.reduceLeDiff, Nat.reduceSub, reduceCtorEq, reduceIte, Int.reduceToNat, beq_self_eq_true, Bool.and_self, rdO, fnO, dO, dT, dT2]; refine ⟨_, _, o6, ?_⟩; try simp only [go_sem, Int.reduceEq, Int.reduceNe, Int.reduceLT, Int.reduceLE, Nat.reduceEqDiff, Nat.reduceAdd, Nat.reduceMul, Nat.reduceLT, Nat.reduceLeDiff, Nat.reduceSub, reduceCtorEq, reduceIte, Int.reduceToNat, beq_self_eq_true, Bool.and_self, rdO, fnO, dO, dT, dT2]
    refine hNo _ (VWp.keep [1,2,4,5,6,7,8,9,10] [4,1,5,6,2,8,86,10] ?_); simp only [go_sem, Int.reduceEq, Int.reduceNe, Int.reduceLT, Int.reduceLE, Nat.reduceEqDiff, Nat.reduceAdd, Nat.reduceMul, Nat.reduceLT, Nat.reduceLeDiff, Nat.reduceSub, reduceCtorEq, reduceIte, Int.reduceToNat, beq_self_eq_true, Bool.and_self, rdO, fnO, dO, dT, dT2]
    refine vreg tt_ok hF rfl ?_; simp only [go_sem, Int.reduceEq, Int.reduceNe, Int.reduceLT, Int.reduceLE, Nat.reduceEqDiff, Nat.reduceAdd, Nat.reduceMul, Nat.reduceLT, Nat.reduceLeDiff, Nat.reduceSub, reduceCtorEq, reduceIte, Int.reduceToNat, beq_self_eq_true, Bool.and_self, rdO, fnO, dO, dT, dT2]
    refine ⟨by omega, ?_⟩
    refine hNj _ (VWp.keep [1,2,4,5,6,7,8,9] [4,1,5,6,2,8,86] ?_); simp only [go_sem, Int.reduceEq, Int.reduceNe, Int.reduceLT, Int.reduceLE, Nat.reduceEqDiff, Nat.reduceAdd, Nat.reduceMul, Nat.reduceLT, Nat.reduceLeDiff, Nat.reduceSub, reduceCtorEq, reduceIte, Int.reduceToNat, beq_self_eq_true, Bool.and_self, rdO, fnO, dO, dT, dT2]
    refine vreg tt_ok hF rfl ?_; simp only [go_sem, Int.reduceEq, Int.reduceNe, Int.reduceLT, Int.reduceLE, Nat.reduceEqDiff, Nat.reduceAdd, Nat.reduceMul, Nat.reduceLT, Nat.reduceLeDiff, Nat.reduceSub, reduceCtorEq, reduceIte, Int.reduceToNat, beq_self_eq_true, Bool.and_self, rdO, fnO, dO, dT, dT2]
    rw [wrap_i64 (by omega) (by omega)]
    refine ⟨(m, (p6, b6), acc ++ [⟨nm, (un : Int), sr, (fl : Int)⟩]), ⟨by simpa using i1, i2, by simp only at g1 g2 g3 g4 g5 g6; show b6.length ≤ b.length; omega, by simp; omega⟩, by simp, ?_⟩
    simp [entC]
  · rw [hf] at hz
    have hstop : m = 0 ∨ q = true := by
      rcases Nat.eq_zero_or_pos m with h | h
      · exact .inl h
      · right; rw [decide_eq_true h] at hz; simpa using hz
    rw [entsR_stop m (q, c) hstop] at i1 i2
    simp only [List.append_nil] at i1 i2
    subst i1 i2
    clear hz hf hstop
    have i5 : acc.length ≤ 65535 := by omega
    clear i4
    obtain ⟨n2, st2, e2⟩ : ∃ n st, twoR (q, c) = (n, st) := ⟨_, _, rfl⟩
    have hp2 := pair_specB (q, c) (by show c.length ≤ _; omega)
    have n2lt := pair_lt (q, c)
    have st2le := pair_len (q, c)
    rw [e2] at hp2 n2lt st2le
    simp only at n2lt st2le
    obtain ⟨GS, S2, eG⟩ : ∃ l st, grpsR n2 st2 = (l, st) := ⟨_, _, rfl⟩
    have hall : allR b = (⟨acc, GS⟩, S2) := by
      unfold allR
      simp only [e1, eE, e2, eG]
    have hR := allR_decC b
    rw [hall] at hR
    simp only at hR
    clear hall eE
    refine vwp_exit ?_
    simp only [go_sem, Int.reduceEq, Int.reduceNe, Int.reduceLT, Int.reduceLE, Nat.reduceEqDiff, Nat.reduceAdd, Nat.reduceMul, Nat.reduceLT, Nat.reduceLeDiff, Nat.reduceSub, reduceCtorEq, reduceIte, Int.reduceToNat, beq_self_eq_true, Bool.and_self, rdO, fnO, dO, dT, dT2]
    refine hNg _ (VWp.keep [1,2,4,5,6,7,8] [4,1,5,6,2,8,86] ?_); simp only [go_sem, Int.reduceEq, Int.reduceNe, Int.reduceLT, Int.reduceLE, Nat.reduceEqDiff, Nat.reduceAdd, Nat.reduceMul, Nat.reduceLT, Nat.reduceLeDiff, Nat.reduceSub, reduceCtorEq, reduceIte, Int.reduceToNat, beq_self_eq_true, Bool.and_self, rdO, fnO, dO, dT, dT2]
    refine vwp_seq_k fun Np hNp => ?_
    refine vwp_seq_k fun Nq hNq => vreg tt_ok hF rfl ?_; simp only [go_sem, Int.reduceEq, Int.reduceNe, Int.reduceLT, Int.reduceLE, Nat.reduceEqDiff, Nat.reduceAdd, Nat.reduceMul, Nat.reduceLT, Nat.reduceLeDiff, Nat.reduceSub, reduceCtorEq, reduceIte, Int.reduceToNat, beq_self_eq_true, Bool.and_self, rdO, fnO, dO, dT, dT2]
    simp only [rdO, fnO, List.cons_append, List.nil_append] at hp2
    refine .inr (bxo [(1000000, 4), (1000001, 1), (1000002, 5), (1000003, 6)] rfl ?_); simp only [go_sem, Int.reduceEq, Int.reduceNe, Int.reduceLT, Int.reduceLE, Nat.reduceEqDiff, Nat.reduceAdd, Nat.reduceMul, Nat.reduceLT, Nat.reduceLeDiff, Nat.reduceSub, reduceCtorEq, reduceIte, Int.reduceToNat, beq_self_eq_true, Bool.and_self, rdO, fnO, dO, dT, dT2]; refine ⟨_, _, hp2, ?_⟩; try simp only [go_sem, Int.reduceEq, Int.reduceNe, Int.reduceLT, Int.reduceLE, Nat.reduceEqDiff, Nat.reduceAdd, Nat.reduceMul, Nat.reduceLT, Nat.reduceLeDiff, Nat.reduceSub, reduceCtorEq, reduceIte, Int.reduceToNat, beq_self_eq_true, Bool.and_self, rdO, fnO, dO, dT, dT2]
    refine hNq _ (VWp.keep [1,2,4,5,6,8,11] [4,1,5,6,2,8,86] ?_); simp only [go_sem, Int.reduceEq, Int.reduceNe, Int.reduceLT, Int.reduceLE, Nat.reduceEqDiff, Nat.reduceAdd, Nat.reduceMul, Nat.reduceLT, Nat.reduceLeDiff, Nat.reduceSub, reduceCtorEq, reduceIte, Int.reduceToNat, beq_self_eq_true, Bool.and_self, rdO, fnO, dO, dT, dT2]
    refine VWp.adoptB 87 2 54 (o := 8) (i := 1) rfl rfl rfl (by decide) ?_
    refine VWp.keep [1,2,4,5,6,8,11] [4,1,5,6,2,8,86,87] ?_; simp only [go_sem, Int.reduceEq, Int.reduceNe, Int.reduceLT, Int.reduceLE, Nat.reduceEqDiff, Nat.reduceAdd, Nat.reduceMul, Nat.reduceLT, Nat.reduceLeDiff, Nat.reduceSub, reduceCtorEq, reduceIte, Int.reduceToNat, beq_self_eq_true, Bool.and_self, rdO, fnO, dO, dT, dT2]
    have qlen : c.length ≤ b.length := i3
    obtain ⟨ES, hES⟩ : ∃ l, acc = l := ⟨_, rfl⟩
    subst hES
    refine vwp_block (vloop (fun z : Nat × Rd × List Grp => dT2 ++ [(11, .int .i64 (z.1 : Int))])
      (fun z => dO z.2.1 ++ [(2, .box 25 [.nil, .nil]), (8, .box 25 [.own 86 acc.length, .own 87 z.2.2.length]), (86, .arr 4 45 (acc.map entC)), (87, .arr 2 54 (z.2.2.map grpC))])
      (fun z => z.2.2 ++ (grpsR z.1 z.2.1).1 = GS ∧ (grpsR z.1 z.2.1).2 = S2 ∧ z.2.1.2.length ≤ b.length ∧ z.1 + z.2.2.length ≤ 65535) (fun z => z.1) (n2, st2, [])
      ⟨by rw [eG]; rfl, by rw [eG], by simp only; omega, by simp; omega⟩ (by simp only [go_sem, Int.reduceEq, Int.reduceNe, Int.reduceLT, Int.reduceLE, Nat.reduceEqDiff, Nat.reduceAdd, Nat.reduceMul, Nat.reduceLT, Nat.reduceLeDiff, Nat.reduceSub, reduceCtorEq, reduceIte, Int.reduceToNat, beq_self_eq_true, Bool.and_self, rdO, fnO, dO, dT, dT2, dT2, List.cons_append, List.nil_append]) ?_)
    clear eG e2 n2lt st2le hp2 n2 st2 i3
    rintro ⟨m, ⟨p, c2⟩, gcc⟩ ⟨i1, i2, i3, i4⟩
    have i1 : gcc ++ (grpsR m (p, c2)).1 = GS := i1
    have i2 : (grpsR m (p, c2)).2 = S2 := i2
    have i3 : c2.length ≤ b.length := i3
    have i4 : m + gcc.length ≤ 65535 := i4
    simp only [dT2, dO, List.cons_append, List.nil_append]
    refine vwp_seq_k fun Nr hNr => ?_
    refine vmeet (fun z : Bool => dT2 ++ [(11, .int .i64 (m : Int)), (57, .bool z)])
      (fun _ => dO (p, c2) ++ [(2, .box 25 [.nil, .nil]), (8, .box 25 [.own 86 acc.length, .own 87 gcc.length]), (86, .arr 4 45 (acc.map entC)), (87, .arr 2 54 (gcc.map grpC))]) (fun z => z = (decide (0 < m) && !p)) ?_ ?_
    · by_cases hm : 0 < m
      · have f1 : decide ((0 : Int) < (m : Int)) = true := decide_eq_true (by omega)
        refine vreg tt_ok hF rfl ?_; simp only [go_sem, Int.reduceEq, Int.reduceNe, Int.reduceLT, Int.reduceLE, Nat.reduceEqDiff, Nat.reduceAdd, Nat.reduceMul, Nat.reduceLT, Nat.reduceLeDiff, Nat.reduceSub, reduceCtorEq, reduceIte, Int.reduceToNat, beq_self_eq_true, Bool.and_self, rdO, fnO, dO, dT, dT2, f1]
        exact ⟨_, rfl, by simp [hm]⟩
      · have f1 : decide ((0 : Int) < (m : Int)) = false := decide_eq_false (by omega)
        refine vreg tt_ok hF rfl ?_; simp only [go_sem, Int.reduceEq, Int.reduceNe, Int.reduceLT, Int.reduceLE, Nat.reduceEqDiff, Nat.reduceAdd, Nat.reduceMul, Nat.reduceLT, Nat.reduceLeDiff, Nat.reduceSub, reduceCtorEq, reduceIte, Int.reduceToNat, beq_self_eq_true, Bool.and_self, rdO, fnO, dO, dT, dT2, f1]
        exact ⟨_, rfl, by simp [hm]⟩
    intro z hz
    simp only [dT2, dO, List.cons_append, List.nil_append]
    refine vif rfl ⟨fun ht => ?_, fun hf => ?_⟩
    · rw [ht] at hz
      have hz := Bool.and_eq_true_iff.1 hz.symm
      have hm0 : 0 < m := of_decide_eq_true hz.1
      have hq : p = false := by simpa using hz.2
      subst hq
      obtain ⟨m, rfl⟩ : ∃ k, m = k + 1 := ⟨m - 1, by omega⟩
      rw [grpsR_step m (false, c2) rfl] at i1 i2
      simp only at i1 i2
      have o1 := one_specB (false, c2) (by show c2.length ≤ _; omega)
      have k1 := oneR_lt (false, c2)
      have g1 := oneR_len (false, c2)
      have hE : grpR (false, c2) = grpR (false, c2) := rfl
      conv at hE => rhs; unfold grpR txtR
      generalize oneR (false, c2) = z1 at o1 k1 g1 hE
      obtain ⟨x1, s1⟩ := z1
      have o2 := take_specB s1 x1 (by omega) (by simp only at g1; omega)
      have g2 := takeR_len s1 x1
      simp only at o1 k1 g1 hE
      generalize takeR s1 x1 = z2 at o2 g2 hE
      obtain ⟨nm, s2⟩ := z2
      have o3 := one_specB s2 (by simp only at g2; omega)
      have g3 := oneR_len s2
      simp only at o2 g2 hE
      generalize oneR s2 = z3 at o3 g3 hE
      obtain ⟨un, s3⟩ := z3
      simp only at o3 g3 hE
      rw [hE] at i1 i2
      simp only at i1 i2
      obtain ⟨p1, b1⟩ := s1
      obtain ⟨p2, b2⟩ := s2
      obtain ⟨p3, b3⟩ := s3
      simp only [rdO, fnO, List.cons_append, List.nil_append] at o1 o2 o3
      refine vwp_skip (hNr _ ?_)
      refine vwp_seq_k fun Nt hNt => ?_
      refine vwp_block ?_
      refine vmeet (fun _ : Unit => dT2 ++ [(11, .int .i64 ((m + 1 : Nat) : Int)), (12, .ptr 12 0)])
        (fun _ => dO (p2, b2) ++ [(2, .box 25 [.nil, .nil]), (8, .box 25 [.own 86 acc.length, .own 87 gcc.length]), (86, .arr 4 45 (acc.map entC)), (87, .arr 2 54 (gcc.map grpC)), (12, .box 54 [.str nm, .int .i64 0])]) (fun _ => True) ?_ ?_
      · refine vregord tt_ok mixed hF rfl .all [[0, 1, 2, 3, 4, 5, 6, 7], [0, 1, 2, 6, 3, 4, 5, 7], [0, 1, 6, 2, 3, 4, 5, 7], [1, 2, 0, 3, 4, 5, 6, 7], [1, 2, 0, 6, 3, 4, 5, 7], [1, 6, 2, 0, 3, 4, 5, 7]]
          [(62, (.int .i64 (x1 : Int), dO (p1, b1))), (63, (.sl 1 (bytesR nm), [(4, .box 4 [.bool p2]), (1, .box 27 [.sl 1 (bytesR b2)])]))] (by kernel_rfl) ⟨?_, ?_, ?_, ?_, ?_, ?_, trivial⟩ <;> simp only [pickL, go_sem, Int.reduceEq, Int.reduceNe, Int.reduceLT, Int.reduceLE, Nat.reduceEqDiff, Nat.reduceAdd, Nat.reduceMul, Nat.reduceLT, Nat.reduceLeDiff, Nat.reduceSub, reduceCtorEq, reduceIte, Int.reduceToNat, beq_self_eq_true, Bool.and_self, rdO, fnO, dO, dT, dT2]
        all_goals
          refine .inr (bxo [(1000000, 4), (1000001, 1), (1000002, 5), (1000003, 6)] rfl ?_); simp only [go_sem, Int.reduceEq, Int.reduceNe, Int.reduceLT, Int.reduceLE, Nat.reduceEqDiff, Nat.reduceAdd, Nat.reduceMul, Nat.reduceLT, Nat.reduceLeDiff, Nat.reduceSub, reduceCtorEq, reduceIte, Int.reduceToNat, beq_self_eq_true, Bool.and_self, rdO, fnO, dO, dT, dT2]; refine ⟨_, _, o1, ?_⟩; try simp only [go_sem, Int.reduceEq, Int.reduceNe, Int.reduceLT, Int.reduceLE, Nat.reduceEqDiff, Nat.reduceAdd, Nat.reduceMul, Nat.reduceLT, Nat.reduceLeDiff, Nat.reduceSub, reduceCtorEq, reduceIte, Int.reduceToNat, beq_self_eq_true, Bool.and_self, rdO, fnO, dO, dT, dT2]
          refine ⟨rfl, ?_⟩
          refine .inr (bxo [(1000000, 4), (1000001, 1)] rfl ?_); simp only [go_sem, Int.reduceEq, Int.reduceNe, Int.reduceLT, Int.reduceLE, Nat.reduceEqDiff, Nat.reduceAdd, Nat.reduceMul, Nat.reduceLT, Nat.reduceLeDiff, Nat.reduceSub, reduceCtorEq, reduceIte, Int.reduceToNat, beq_self_eq_true, Bool.and_self, rdO, fnO, dO, dT, dT2]; refine ⟨_, _, o2, ?_⟩; try simp only [go_sem, Int.reduceEq, Int.reduceNe, Int.reduceLT, Int.reduceLE, Nat.reduceEqDiff, Nat.reduceAdd, Nat.reduceMul, Nat.reduceLT, Nat.reduceLeDiff, Nat.reduceSub, reduceCtorEq, reduceIte, Int.reduceToNat, beq_self_eq_true, Bool.and_self, rdO, fnO, dO, dT, dT2]
          refine ⟨rfl, ?_⟩
          exact ⟨(), by simp⟩
      intro _ _
      simp only [dT2, dO, List.cons_append, List.nil_append]
      refine vwp_seq_k fun Nv hNv => vreg tt_ok hF rfl ?_; simp only [go_sem, Int.reduceEq, Int.reduceNe, Int.reduceLT, Int.reduceLE, Nat.reduceEqDiff, Nat.reduceAdd, Nat.reduceMul, Nat.reduceLT, Nat.reduceLeDiff, Nat.reduceSub, reduceCtorEq, reduceIte, Int.reduceToNat, beq_self_eq_true, Bool.and_self, rdO, fnO, dO, dT, dT2]
      refine .inr (bxo [(1000000, 4), (1000001, 1), (1000002, 5), (1000003, 6)] rfl ?_); simp only [go_sem, Int.reduceEq, Int.reduceNe, Int.reduceLT, Int.reduceLE, Nat.reduceEqDiff, Nat.reduceAdd, Nat.reduceMul, Nat.reduceLT, Nat.reduceLeDiff, Nat.reduceSub, reduceCtorEq, reduceIte, Int.reduceToNat, beq_self_eq_true, Bool.and_self, rdO, fnO, dO, dT, dT2]; refine ⟨_, _, o3, ?_⟩; try simp only [go_sem, Int.reduceEq, Int.reduceNe, Int.reduceLT, Int.reduceLE, Nat.reduceEqDiff, Nat.reduceAdd, Nat.reduceMul, Nat.reduceLT, Nat.reduceLeDiff, Nat.reduceSub, reduceCtorEq, reduceIte, Int.reduceToNat, beq_self_eq_true, Bool.and_self, rdO, fnO, dO, dT, dT2]
      refine hNv _ (VWp.keep [1,2,4,5,6,8,11,12] [4,1,5,6,2,8,86,87,12] ?_); simp only [go_sem, Int.reduceEq, Int.reduceNe, Int.reduceLT, Int.reduceLE, Nat.reduceEqDiff, Nat.reduceAdd, Nat.reduceMul, Nat.reduceLT, Nat.reduceLeDiff, Nat.reduceSub, reduceCtorEq, reduceIte, Int.reduceToNat, beq_self_eq_true, Bool.and_self, rdO, fnO, dO, dT, dT2]
      refine vreg tt_ok hF rfl ?_; simp only [go_sem, Int.reduceEq, Int.reduceNe, Int.reduceLT, Int.reduceLE, Nat.reduceEqDiff, Nat.reduceAdd, Nat.reduceMul, Nat.reduceLT, Nat.reduceLeDiff, Nat.reduceSub, reduceCtorEq, reduceIte, Int.reduceToNat, beq_self_eq_true, Bool.and_self, rdO, fnO, dO, dT, dT2]
      refine ⟨by omega, ?_⟩
      refine hNt _ (VWp.keep [1,2,4,5,6,8,11] [4,1,5,6,2,8,86,87] ?_); simp only [go_sem, Int.reduceEq, Int.reduceNe, Int.reduceLT, Int.reduceLE, Nat.reduceEqDiff, Nat.reduceAdd, Nat.reduceMul, Nat.reduceLT, Nat.reduceLeDiff, Nat.reduceSub, reduceCtorEq, reduceIte, Int.reduceToNat, beq_self_eq_true, Bool.and_self, rdO, fnO, dO, dT, dT2]
      refine vreg tt_ok hF rfl ?_; simp only [go_sem, Int.reduceEq, Int.reduceNe, Int.reduceLT, Int.reduceLE, Nat.reduceEqDiff, Nat.reduceAdd, Nat.reduceMul, Nat.reduceLT, Nat.reduceLeDiff, Nat.reduceSub, reduceCtorEq, reduceIte, Int.reduceToNat, beq_self_eq_true, Bool.and_self, rdO, fnO, dO, dT, dT2]
      rw [wrap_i64 (by omega) (by omega)]
      refine ⟨(m, (p3, b3), gcc ++ [⟨nm, (un : Int)⟩]), ⟨by simpa using i1, i2, by simp only at g1 g2 g3; show b3.length ≤ b.length; omega, by simp; omega⟩, by simp, ?_⟩
      simp [grpC]
    · rw [hf] at hz
      have hstop : m = 0 ∨ p = true := by
        rcases Nat.eq_zero_or_pos m with h | h
        · exact .inl h
        · right; rw [decide_eq_true h] at hz; simpa using hz
      rw [grpsR_stop m (p, c2) hstop] at i1 i2
      simp only [List.append_nil] at i1 i2
      subst i1 i2
      clear hz hf hstop
      refine vwp_exit ?_
      simp only [go_sem, Int.reduceEq, Int.reduceNe, Int.reduceLT, Int.reduceLE, Nat.reduceEqDiff, Nat.reduceAdd, Nat.reduceMul, Nat.reduceLT, Nat.reduceLeDiff, Nat.reduceSub, reduceCtorEq, reduceIte, Int.reduceToNat, beq_self_eq_true, Bool.and_self, rdO, fnO, dO, dT, dT2]
      refine hNp _ (VWp.keep [1,2,4,8] [4,1,2,8,86,87] ?_); simp only [go_sem, Int.reduceEq, Int.reduceNe, Int.reduceLT, Int.reduceLE, Nat.reduceEqDiff, Nat.reduceAdd, Nat.reduceMul, Nat.reduceLT, Nat.reduceLeDiff, Nat.reduceSub, reduceCtorEq, reduceIte, Int.reduceToNat, beq_self_eq_true, Bool.and_self, rdO, fnO, dO, dT, dT2]
      refine vwp_seq_k fun Nw hNw => ?_
      refine vmeet (fun z : Bool => [(2, .ptr 2 0), (8, .ptr 8 0), (85, .bool z)])
        (fun _ => [(2, .box 25 [.nil, .nil]), (8, .box 25 [.own 86 acc.length, .own 87 gcc.length]), (86, .arr 4 45 (acc.map entC)), (87, .arr 2 54 (gcc.map grpC))]) (fun z => z = (p || decide (0 < c2.length) || !validC ⟨acc, gcc⟩)) ?_ ?_
      · cases p with
        | true =>
          refine vreg tt_ok hF rfl ?_; simp only [go_sem, Int.reduceEq, Int.reduceNe, Int.reduceLT, Int.reduceLE, Nat.reduceEqDiff, Nat.reduceAdd, Nat.reduceMul, Nat.reduceLT, Nat.reduceLeDiff, Nat.reduceSub, reduceCtorEq, reduceIte, Int.reduceToNat, beq_self_eq_true, Bool.and_self, rdO, fnO, dO, dT, dT2]
          exact ⟨_, rfl, by simp⟩
        | false =>
          by_cases hl : 0 < c2.length
          · have f1 : decide ((0 : Int) < ((bytesR c2).length : Int)) = true := decide_eq_true (by rw [bytesR_len]; omega)
            refine vreg tt_ok hF rfl ?_; simp only [go_sem, Int.reduceEq, Int.reduceNe, Int.reduceLT, Int.reduceLE, Nat.reduceEqDiff, Nat.reduceAdd, Nat.reduceMul, Nat.reduceLT, Nat.reduceLeDiff, Nat.reduceSub, reduceCtorEq, reduceIte, Int.reduceToNat, beq_self_eq_true, Bool.and_self, rdO, fnO, dO, dT, dT2, f1]
            exact ⟨_, rfl, by simp [hl]⟩
          · have f1 : decide ((0 : Int) < ((bytesR c2).length : Int)) = false := decide_eq_false (by rw [bytesR_len]; omega)
            refine vreg tt_ok hF rfl ?_; simp only [go_sem, Int.reduceEq, Int.reduceNe, Int.reduceLT, Int.reduceLE, Nat.reduceEqDiff, Nat.reduceAdd, Nat.reduceMul, Nat.reduceLT, Nat.reduceLeDiff, Nat.reduceSub, reduceCtorEq, reduceIte, Int.reduceToNat, beq_self_eq_true, Bool.and_self, rdO, fnO, dO, dT, dT2, f1]
            cases hv : validC ⟨acc, gcc⟩ with
            | false =>
              refine .inl ⟨_, Check_at (c := ⟨acc, gcc⟩) (k := 1) (by rw [hv]; rfl), ?_⟩; try simp only [go_sem, Int.reduceEq, Int.reduceNe, Int.reduceLT, Int.reduceLE, Nat.reduceEqDiff, Nat.reduceAdd, Nat.reduceMul, Nat.reduceLT, Nat.reduceLeDiff, Nat.reduceSub, reduceCtorEq, reduceIte, Int.reduceToNat, beq_self_eq_true, Bool.and_self, rdO, fnO, dO, dT, dT2]
              exact ⟨_, rfl, by simp [hl]⟩
            | true =>
              refine .inl ⟨_, Check_at (c := ⟨acc, gcc⟩) (k := 0) (by rw [hv]; rfl), ?_⟩; try simp only [go_sem, Int.reduceEq, Int.reduceNe, Int.reduceLT, Int.reduceLE, Nat.reduceEqDiff, Nat.reduceAdd, Nat.reduceMul, Nat.reduceLT, Nat.reduceLeDiff, Nat.reduceSub, reduceCtorEq, reduceIte, Int.reduceToNat, beq_self_eq_true, Bool.and_self, rdO, fnO, dO, dT, dT2]
              exact ⟨_, rfl, by simp [hl]⟩
      intro z hz
      rw [← hz] at hR
      refine vif rfl ⟨fun ht => ?_, fun hf => ?_⟩
      · rw [ht, if_pos rfl] at hR
        refine vwp_seq_k fun Ny hNy => vreg tt_ok hF rfl ?_; simp only [go_sem, Int.reduceEq, Int.reduceNe, Int.reduceLT, Int.reduceLE, Nat.reduceEqDiff, Nat.reduceAdd, Nat.reduceMul, Nat.reduceLT, Nat.reduceLeDiff, Nat.reduceSub, reduceCtorEq, reduceIte, Int.reduceToNat, beq_self_eq_true, Bool.and_self, rdO, fnO, dO, dT, dT2]
        refine hNy _ (VWp.keep [2,3] [2] ?_); simp only [go_sem, Int.reduceEq, Int.reduceNe, Int.reduceLT, Int.reduceLE, Nat.reduceEqDiff, Nat.reduceAdd, Nat.reduceMul, Nat.reduceLT, Nat.reduceLeDiff, Nat.reduceSub, reduceCtorEq, reduceIte, Int.reduceToNat, beq_self_eq_true, Bool.and_self, rdO, fnO, dO, dT, dT2]
        refine vwp_ret ?_
        simp only [go_sem, Int.reduceEq, Int.reduceNe, Int.reduceLT, Int.reduceLE, Nat.reduceEqDiff, Nat.reduceAdd, Nat.reduceMul, Nat.reduceLT, Nat.reduceLeDiff, Nat.reduceSub, reduceCtorEq, reduceIte, Int.reduceToNat, beq_self_eq_true, Bool.and_self, rdO, fnO, dO, dT, dT2]
        rw [hR]
        exact LeV.tup ⟨agg2 (LeV.nil 4) (LeV.nil 2), LeV.refl _, trivial⟩
      · rw [hf, if_neg (by decide)] at hR
        refine vwp_skip (hNw _ ?_)
        refine vwp_seq_k fun Nz hNz => vreg tt_ok hF rfl ?_; simp only [go_sem, Int.reduceEq, Int.reduceNe, Int.reduceLT, Int.reduceLE, Nat.reduceEqDiff, Nat.reduceAdd, Nat.reduceMul, Nat.reduceLT, Nat.reduceLeDiff, Nat.reduceSub, reduceCtorEq, reduceIte, Int.reduceToNat, beq_self_eq_true, Bool.and_self, rdO, fnO, dO, dT, dT2]
        refine hNz _ (VWp.keep [2,3] [2,86,87] ?_); simp only [go_sem, Int.reduceEq, Int.reduceNe, Int.reduceLT, Int.reduceLE, Nat.reduceEqDiff, Nat.reduceAdd, Nat.reduceMul, Nat.reduceLT, Nat.reduceLeDiff, Nat.reduceSub, reduceCtorEq, reduceIte, Int.reduceToNat, beq_self_eq_true, Bool.and_self, rdO, fnO, dO, dT, dT2]
        refine vwp_ret ?_
        simp only [go_sem, Int.reduceEq, Int.reduceNe, Int.reduceLT, Int.reduceLE, Nat.reduceEqDiff, Nat.reduceAdd, Nat.reduceMul, Nat.reduceLT, Nat.reduceLeDiff, Nat.reduceSub, reduceCtorEq, reduceIte, Int.reduceToNat, beq_self_eq_true, Bool.and_self, rdO, fnO, dO, dT, dT2]
        rw [hR]
        exact LeV.refl _
end Go.Proofs.YtldkmclfhjcicaaGreatDoor

/- The reference's Decode. -/
-- SIMP: beq_self_eq_true, Bool.and_self, rO
namespace Go.Proofs.YtldkmclfhjcicaaGreatDoor
open Go.RowKit
set_option linter.unusedVariables false
set_option linter.unusedSimpArgs false
def rO (st : Rd) : List (Nat × Ob) := [(1000000, .box 92 [.sl 1 (bytesR st.2), .bool st.1])]
set_option maxHeartbeats 4000000 in
set_option maxRecDepth 4000 in
theorem rtake_specB (st : Rd) (n : Nat) (hn : n ≤ 255) (hb : st.2.length ≤ 9223372036854775807) :
    SpecB Tryz.prog 72 [.ptr 1000000 0, .int .i64 (n : Int)] (rO st) (.sl 1 (bytesR (takeR st n).1)) (rO (takeR st n).2) := by
  obtain ⟨q, b⟩ := st
  have hb : b.length ≤ 9223372036854775807 := hb
  have bad : ∀ q', q' = true ∨ b.length < n → takeR (q', b) n = (List.replicate n 0, (true, b)) := fun q' h => by
    rcases h with rfl | h
    · exact takeR_t b n
    · cases q'
      · exact takeR_s h
      · exact takeR_t b n
  refine specB_of tt_ok Tryz.func72 rfl (by decide) Tryz.ntmps72 (congrArg Array.toList Tryz.results72) (by simp) (by decide) rfl (by simp only [go_sem, Int.reduceEq, Int.reduceNe, Int.reduceLT, Int.reduceLE, Nat.reduceEqDiff, Nat.reduceAdd, Nat.reduceMul, Nat.reduceLT, Nat.reduceLeDiff, Nat.reduceSub, reduceCtorEq, reduceIte, Int.reduceToNat, beq_self_eq_true, Bool.and_self, rO]) (fun F hF => ?_)
  refine vwp_seq_k fun Na hNa => vreg tt_ok hF rfl ?_; simp only [go_sem, Int.reduceEq, Int.reduceNe, Int.reduceLT, Int.reduceLE, Nat.reduceEqDiff, Nat.reduceAdd, Nat.reduceMul, Nat.reduceLT, Nat.reduceLeDiff, Nat.reduceSub, reduceCtorEq, reduceIte, Int.reduceToNat, beq_self_eq_true, Bool.and_self, rO]
  refine hNa _ (VWp.keep [0,1] [1000000] ?_); simp only [go_sem, Int.reduceEq, Int.reduceNe, Int.reduceLT, Int.reduceLE, Nat.reduceEqDiff, Nat.reduceAdd, Nat.reduceMul, Nat.reduceLT, Nat.reduceLeDiff, Nat.reduceSub, reduceCtorEq, reduceIte, Int.reduceToNat, beq_self_eq_true, Bool.and_self, rO]
  refine vwp_seq_k fun Nb hNb => ?_
  refine vmeet (fun z : Bool => [(0, .ptr 1000000 0), (1, .int .i64 (n : Int)), (18, .bool z)]) (fun _ => [(1000000, .box 92 [.sl 1 (bytesR b), .bool q])]) (fun z => z = (q || decide (b.length < n))) ?_ ?_
  · cases q
    · have f1 : decide (((bytesR b).length : Int) < (n : Int)) = decide (b.length < n) := by rw [bytesR_len]; apply decide_eq_decide.2; omega
      refine vreg tt_ok hF rfl ?_; simp only [go_sem, Int.reduceEq, Int.reduceNe, Int.reduceLT, Int.reduceLE, Nat.reduceEqDiff, Nat.reduceAdd, Nat.reduceMul, Nat.reduceLT, Nat.reduceLeDiff, Nat.reduceSub, reduceCtorEq, reduceIte, Int.reduceToNat, beq_self_eq_true, Bool.and_self, rO, f1]
      exact ⟨_, rfl, by simp⟩
    · refine vreg tt_ok hF rfl ?_; simp only [go_sem, Int.reduceEq, Int.reduceNe, Int.reduceLT, Int.reduceLE, Nat.reduceEqDiff, Nat.reduceAdd, Nat.reduceMul, Nat.reduceLT, Nat.reduceLeDiff, Nat.reduceSub, reduceCtorEq, reduceIte, Int.reduceToNat, beq_self_eq_true, Bool.and_self, rO]
      exact ⟨_, rfl, by simp⟩
  intro z hz
  refine vif rfl ⟨fun ht => ?_, fun hf => ?_⟩
  · have hbd : q = true ∨ b.length < n := by rw [ht] at hz; simpa using hz.symm
    rw [bad q hbd]
    refine vwp_seq_k fun Nd hNd => vreg tt_ok hF rfl ?_; simp only [go_sem, Int.reduceEq, Int.reduceNe, Int.reduceLT, Int.reduceLE, Nat.reduceEqDiff, Nat.reduceAdd, Nat.reduceMul, Nat.reduceLT, Nat.reduceLeDiff, Nat.reduceSub, reduceCtorEq, reduceIte, Int.reduceToNat, beq_self_eq_true, Bool.and_self, rO]
    refine hNd _ (VWp.keepR [0,1] [1000000] tt_ok hF rfl fun Ne hNe => ?_); simp only [go_sem, Int.reduceEq, Int.reduceNe, Int.reduceLT, Int.reduceLE, Nat.reduceEqDiff, Nat.reduceAdd, Nat.reduceMul, Nat.reduceLT, Nat.reduceLeDiff, Nat.reduceSub, reduceCtorEq, reduceIte, Int.reduceToNat, beq_self_eq_true, Bool.and_self, rO]
    refine ⟨⟨by omega, by omega, by omega⟩, ?_⟩
    refine hNe _ (VWp.keep [4] [23,1000000] ?_); simp only [go_sem, Int.reduceEq, Int.reduceNe, Int.reduceLT, Int.reduceLE, Nat.reduceEqDiff, Nat.reduceAdd, Nat.reduceMul, Nat.reduceLT, Nat.reduceLeDiff, Nat.reduceSub, reduceCtorEq, reduceIte, Int.reduceToNat, beq_self_eq_true, Bool.and_self, rO]
    refine ⟨by simp, ?_⟩
    refine vwp_ret ?_
    simp only [go_sem, Int.reduceEq, Int.reduceNe, Int.reduceLT, Int.reduceLE, Nat.reduceEqDiff, Nat.reduceAdd, Nat.reduceMul, Nat.reduceLT, Nat.reduceLeDiff, Nat.reduceSub, reduceCtorEq, reduceIte, Int.reduceToNat, beq_self_eq_true, Bool.and_self, rO, List.length_replicate]
    exact LeV.of_eq (by rw [bytesR_rep])
  · have hgd : q = false ∧ n ≤ b.length := by rw [hf] at hz; simpa using hz.symm
    obtain ⟨rfl, hgl⟩ := hgd
    refine vwp_skip (hNb _ ?_)
    refine vwp_seq_k fun Nf hNf => vreg tt_ok hF rfl ?_; simp only [go_sem, Int.reduceEq, Int.reduceNe, Int.reduceLT, Int.reduceLE, Nat.reduceEqDiff, Nat.reduceAdd, Nat.reduceMul, Nat.reduceLT, Nat.reduceLeDiff, Nat.reduceSub, reduceCtorEq, reduceIte, Int.reduceToNat, beq_self_eq_true, Bool.and_self, rO]
    refine ⟨⟨by omega, by rw [bytesR_len]; omega⟩, ?_⟩
    refine hNf _ (VWp.keepR [0,1,5] [1000000] tt_ok hF rfl fun Ng hNg => ?_); simp only [go_sem, Int.reduceEq, Int.reduceNe, Int.reduceLT, Int.reduceLE, Nat.reduceEqDiff, Nat.reduceAdd, Nat.reduceMul, Nat.reduceLT, Nat.reduceLeDiff, Nat.reduceSub, reduceCtorEq, reduceIte, Int.reduceToNat, beq_self_eq_true, Bool.and_self, rO]
    refine ⟨⟨by omega, by rw [bytesR_len]; omega⟩, ?_⟩
    refine hNg _ (VWp.keepR [5] [1000000] tt_ok hF rfl fun Nh hNh => ?_); simp only [go_sem, Int.reduceEq, Int.reduceNe, Int.reduceLT, Int.reduceLE, Nat.reduceEqDiff, Nat.reduceAdd, Nat.reduceMul, Nat.reduceLT, Nat.reduceLeDiff, Nat.reduceSub, reduceCtorEq, reduceIte, Int.reduceToNat, beq_self_eq_true, Bool.and_self, rO]
    refine hNh _ (VWp.keep [4] [1000000] ?_); simp only [go_sem, Int.reduceEq, Int.reduceNe, Int.reduceLT, Int.reduceLE, Nat.reduceEqDiff, Nat.reduceAdd, Nat.reduceMul, Nat.reduceLT, Nat.reduceLeDiff, Nat.reduceSub, reduceCtorEq, reduceIte, Int.reduceToNat, beq_self_eq_true, Bool.and_self, rO]
    refine vwp_ret ?_
    simp only [go_sem, Int.reduceEq, Int.reduceNe, Int.reduceLT, Int.reduceLE, Nat.reduceEqDiff, Nat.reduceAdd, Nat.reduceMul, Nat.reduceLT, Nat.reduceLeDiff, Nat.reduceSub, reduceCtorEq, reduceIte, Int.reduceToNat, beq_self_eq_true, Bool.and_self, rO, takeR_l hgl]
    refine ⟨LeV.of_eq (by rw [bytesR_take]), ?_⟩
    rw [show (bytesR b).length = b.length from bytesR_len b, List.take_of_length_le (by rw [bytesR_len]; omega), bytesR_drop]
set_option maxHeartbeats 4000000 in
set_option maxRecDepth 4000 in
theorem rone_specB (st : Rd) (hb : st.2.length ≤ 9223372036854775807) :
    SpecB Tryz.prog 48 [.ptr 1000000 0] (rO st) (.int .i64 ((oneR st).1 : Int)) (rO (oneR st).2) := by
  obtain ⟨x, hx⟩ := takeR_one st
  have h1 : (oneR st).1 = x.toNat := by unfold oneR; rw [hx]; rfl
  have hx8 : x.toNat < 256 := x.toNat_lt
  have hs := rtake_specB st 1 (by omega) hb
  rw [hx] at hs
  rw [h1]
  unfold oneR
  generalize (takeR st 1).2 = st2 at hs
  obtain ⟨q, b⟩ := st
  obtain ⟨q2, b2⟩ := st2
  simp only [rO, bytesR, List.map_cons, List.map_nil] at hs
  refine specB_of tt_ok Tryz.func48 rfl (by decide) Tryz.ntmps48 (congrArg Array.toList Tryz.results48) (by simp) (by decide) rfl (by simp only [go_sem, Int.reduceEq, Int.reduceNe, Int.reduceLT, Int.reduceLE, Nat.reduceEqDiff, Nat.reduceAdd, Nat.reduceMul, Nat.reduceLT, Nat.reduceLeDiff, Nat.reduceSub, reduceCtorEq, reduceIte, Int.reduceToNat, beq_self_eq_true, Bool.and_self, rO]) (fun F hF => ?_)
  refine vwp_seq_k fun Na hNa => vreg tt_ok hF rfl ?_; simp only [go_sem, Int.reduceEq, Int.reduceNe, Int.reduceLT, Int.reduceLE, Nat.reduceEqDiff, Nat.reduceAdd, Nat.reduceMul, Nat.reduceLT, Nat.reduceLeDiff, Nat.reduceSub, reduceCtorEq, reduceIte, Int.reduceToNat, beq_self_eq_true, Bool.and_self, rO]
  refine hNa _ (VWp.keepR [0] [1000000] tt_ok hF rfl fun Nb hNb => ?_); simp only [go_sem, Int.reduceEq, Int.reduceNe, Int.reduceLT, Int.reduceLE, Nat.reduceEqDiff, Nat.reduceAdd, Nat.reduceMul, Nat.reduceLT, Nat.reduceLeDiff, Nat.reduceSub, reduceCtorEq, reduceIte, Int.reduceToNat, beq_self_eq_true, Bool.and_self, rO]
  refine .inr (bxo [(1000000, 1000000)] rfl ?_); simp only [go_sem, Int.reduceEq, Int.reduceNe, Int.reduceLT, Int.reduceLE, Nat.reduceEqDiff, Nat.reduceAdd, Nat.reduceMul, Nat.reduceLT, Nat.reduceLeDiff, Nat.reduceSub, reduceCtorEq, reduceIte, Int.reduceToNat, beq_self_eq_true, Bool.and_self, rO]; refine ⟨_, _, hs, ?_⟩; try simp only [go_sem, Int.reduceEq, Int.reduceNe, Int.reduceLT, Int.reduceLE, Nat.reduceEqDiff, Nat.reduceAdd, Nat.reduceMul, Nat.reduceLT, Nat.reduceLeDiff, Nat.reduceSub, reduceCtorEq, reduceIte, Int.reduceToNat, beq_self_eq_true, Bool.and_self, rO]
  rw [wrap_i64 (by omega) (by omega)]
  refine hNb _ (VWp.keep [2] [1000000] ?_); simp only [go_sem, Int.reduceEq, Int.reduceNe, Int.reduceLT, Int.reduceLE, Nat.reduceEqDiff, Nat.reduceAdd, Nat.reduceMul, Nat.reduceLT, Nat.reduceLeDiff, Nat.reduceSub, reduceCtorEq, reduceIte, Int.reduceToNat, beq_self_eq_true, Bool.and_self, rO]
  refine vwp_ret ?_
  simp only [go_sem, Int.reduceEq, Int.reduceNe, Int.reduceLT, Int.reduceLE, Nat.reduceEqDiff, Nat.reduceAdd, Nat.reduceMul, Nat.reduceLT, Nat.reduceLeDiff, Nat.reduceSub, reduceCtorEq, reduceIte, Int.reduceToNat, beq_self_eq_true, Bool.and_self, rO]
  exact ⟨LeV.refl _, rfl⟩
theorem takeR_two (st : Rd) : ∃ x y, (takeR st 2).1 = [x, y] := by
  unfold takeR
  split
  · exact ⟨0, 0, rfl⟩
  · rename_i h
    obtain ⟨q, b⟩ := st
    cases b with
    | nil => simp at h
    | cons x t =>
      cases t with
      | nil => simp at h
      | cons y t => exact ⟨x, y, rfl⟩
theorem twoQ_lt (st : Rd) : (twoQ st).1 < 65536 := by
  obtain ⟨x, y, h⟩ := takeR_two st
  have := x.toNat_lt
  have := y.toNat_lt
  unfold twoQ; rw [h]; simp only [List.headD_cons, List.drop_succ_cons, List.drop_zero]; omega
theorem twoQ_len (st : Rd) : (twoQ st).2.2.length ≤ st.2.length := takeR_len st 2
set_option maxHeartbeats 4000000 in
set_option maxRecDepth 4000 in
theorem rpair_specB (st : Rd) (hb : st.2.length ≤ 9223372036854775807) :
    SpecB Tryz.prog 46 [.ptr 1000000 0] (rO st) (.int .i64 ((twoQ st).1 : Int)) (rO (twoQ st).2) := by
  obtain ⟨x, y, hx⟩ := takeR_two st
  have h1 : (twoQ st).1 = 256 * x.toNat + y.toNat := by unfold twoQ; rw [hx]; rfl
  have hx8 : x.toNat < 256 := x.toNat_lt
  have hy8 : y.toNat < 256 := y.toNat_lt
  have hs := rtake_specB st 2 (by omega) hb
  rw [hx] at hs
  rw [h1]
  unfold twoQ
  generalize (takeR st 2).2 = st2 at hs
  obtain ⟨q, b⟩ := st
  obtain ⟨q2, b2⟩ := st2
  simp only [rO, bytesR, List.map_cons, List.map_nil] at hs
  refine specB_of tt_ok Tryz.func46 rfl (by decide) Tryz.ntmps46 (congrArg Array.toList Tryz.results46) (by simp) (by decide) rfl (by simp only [go_sem, Int.reduceEq, Int.reduceNe, Int.reduceLT, Int.reduceLE, Nat.reduceEqDiff, Nat.reduceAdd, Nat.reduceMul, Nat.reduceLT, Nat.reduceLeDiff, Nat.reduceSub, reduceCtorEq, reduceIte, Int.reduceToNat, beq_self_eq_true, Bool.and_self, rO]) (fun F hF => ?_)
  refine vwp_seq_k fun Na hNa => vreg tt_ok hF rfl ?_; simp only [go_sem, Int.reduceEq, Int.reduceNe, Int.reduceLT, Int.reduceLE, Nat.reduceEqDiff, Nat.reduceAdd, Nat.reduceMul, Nat.reduceLT, Nat.reduceLeDiff, Nat.reduceSub, reduceCtorEq, reduceIte, Int.reduceToNat, beq_self_eq_true, Bool.and_self, rO]
  refine hNa _ (VWp.keepR [0] [1000000] tt_ok hF rfl fun Nb hNb => ?_); simp only [go_sem, Int.reduceEq, Int.reduceNe, Int.reduceLT, Int.reduceLE, Nat.reduceEqDiff, Nat.reduceAdd, Nat.reduceMul, Nat.reduceLT, Nat.reduceLeDiff, Nat.reduceSub, reduceCtorEq, reduceIte, Int.reduceToNat, beq_self_eq_true, Bool.and_self, rO]
  refine .inr (bxo [(1000000, 1000000)] rfl ?_); simp only [go_sem, Int.reduceEq, Int.reduceNe, Int.reduceLT, Int.reduceLE, Nat.reduceEqDiff, Nat.reduceAdd, Nat.reduceMul, Nat.reduceLT, Nat.reduceLeDiff, Nat.reduceSub, reduceCtorEq, reduceIte, Int.reduceToNat, beq_self_eq_true, Bool.and_self, rO]; refine ⟨_, _, hs, ?_⟩; try simp only [go_sem, Int.reduceEq, Int.reduceNe, Int.reduceLT, Int.reduceLE, Nat.reduceEqDiff, Nat.reduceAdd, Nat.reduceMul, Nat.reduceLT, Nat.reduceLeDiff, Nat.reduceSub, reduceCtorEq, reduceIte, Int.reduceToNat, beq_self_eq_true, Bool.and_self, rO]
  refine hNb _ (VWp.keep [3] [1000000] ?_); simp only [go_sem, Int.reduceEq, Int.reduceNe, Int.reduceLT, Int.reduceLE, Nat.reduceEqDiff, Nat.reduceAdd, Nat.reduceMul, Nat.reduceLT, Nat.reduceLeDiff, Nat.reduceSub, reduceCtorEq, reduceIte, Int.reduceToNat, beq_self_eq_true, Bool.and_self, rO]
  refine vwp_seq_k fun Nc hNc => vregd tt_ok mixed hF rfl (by kernel_rfl) (by kernel_rfl) ?_; simp only [go_sem, Int.reduceEq, Int.reduceNe, Int.reduceLT, Int.reduceLE, Nat.reduceEqDiff, Nat.reduceAdd, Nat.reduceMul, Nat.reduceLT, Nat.reduceLeDiff, Nat.reduceSub, reduceCtorEq, reduceIte, Int.reduceToNat, beq_self_eq_true, Bool.and_self, rO]
  rw [wrap_i64 (n := (x.toNat : Int)) (by omega) (by omega), wrap_i64 (n := (y.toNat : Int)) (by omega) (by omega), wrap_i64 (n := 256 * (x.toNat : Int)) (by omega) (by omega), wrap_i64 (by omega) (by omega)]
  refine hNc _ (VWp.keep [2] [1000000] ?_); simp only [go_sem, Int.reduceEq, Int.reduceNe, Int.reduceLT, Int.reduceLE, Nat.reduceEqDiff, Nat.reduceAdd, Nat.reduceMul, Nat.reduceLT, Nat.reduceLeDiff, Nat.reduceSub, reduceCtorEq, reduceIte, Int.reduceToNat, beq_self_eq_true, Bool.and_self, rO]
  refine vwp_ret ?_
  simp only [go_sem, Int.reduceEq, Int.reduceNe, Int.reduceLT, Int.reduceLE, Nat.reduceEqDiff, Nat.reduceAdd, Nat.reduceMul, Nat.reduceLT, Nat.reduceLeDiff, Nat.reduceSub, reduceCtorEq, reduceIte, Int.reduceToNat, beq_self_eq_true, Bool.and_self, rO]
  exact ⟨LeV.of_eq (by congr 1), rfl⟩
set_option maxHeartbeats 4000000 in
set_option maxRecDepth 4000 in
theorem rtext_specB (st : Rd) (hb : st.2.length ≤ 9223372036854775807) :
    SpecB Tryz.prog 47 [.ptr 1000000 0] (rO st) (.str (txtR st).1) (rO (txtR st).2) := by
  have h1 := rone_specB st hb
  have l1 := oneR_lt st
  have g1 := oneR_len st
  unfold txtR
  generalize oneR st = z1 at h1 l1 g1
  obtain ⟨x, st2⟩ := z1
  simp only at h1 l1 g1 ⊢
  have h2 := rtake_specB st2 x (by omega) (by omega)
  generalize takeR st2 x = z2 at h2
  obtain ⟨t, st3⟩ := z2
  simp only at h2 ⊢
  obtain ⟨q, b⟩ := st
  obtain ⟨q2, b2⟩ := st2
  obtain ⟨q3, b3⟩ := st3
  simp only [rO] at h1 h2
  refine specB_of tt_ok Tryz.func47 rfl (by decide) Tryz.ntmps47 (congrArg Array.toList Tryz.results47) (by simp) (by decide) rfl (by simp only [go_sem, Int.reduceEq, Int.reduceNe, Int.reduceLT, Int.reduceLE, Nat.reduceEqDiff, Nat.reduceAdd, Nat.reduceMul, Nat.reduceLT, Nat.reduceLeDiff, Nat.reduceSub, reduceCtorEq, reduceIte, Int.reduceToNat, beq_self_eq_true, Bool.and_self, rO]) (fun F hF => ?_)
  refine vwp_seq_k fun Na hNa => vreg tt_ok hF rfl ?_; simp only [go_sem, Int.reduceEq, Int.reduceNe, Int.reduceLT, Int.reduceLE, Nat.reduceEqDiff, Nat.reduceAdd, Nat.reduceMul, Nat.reduceLT, Nat.reduceLeDiff, Nat.reduceSub, reduceCtorEq, reduceIte, Int.reduceToNat, beq_self_eq_true, Bool.and_self, rO]
  refine hNa _ (VWp.keepR [0] [1000000] tt_ok hF rfl fun Nb hNb => ?_); simp only [go_sem, Int.reduceEq, Int.reduceNe, Int.reduceLT, Int.reduceLE, Nat.reduceEqDiff, Nat.reduceAdd, Nat.reduceMul, Nat.reduceLT, Nat.reduceLeDiff, Nat.reduceSub, reduceCtorEq, reduceIte, Int.reduceToNat, beq_self_eq_true, Bool.and_self, rO]
  refine .inr (bxo [(1000000, 1000000)] rfl ?_); simp only [go_sem, Int.reduceEq, Int.reduceNe, Int.reduceLT, Int.reduceLE, Nat.reduceEqDiff, Nat.reduceAdd, Nat.reduceMul, Nat.reduceLT, Nat.reduceLeDiff, Nat.reduceSub, reduceCtorEq, reduceIte, Int.reduceToNat, beq_self_eq_true, Bool.and_self, rO]; refine ⟨_, _, h1, ?_⟩; try simp only [go_sem, Int.reduceEq, Int.reduceNe, Int.reduceLT, Int.reduceLE, Nat.reduceEqDiff, Nat.reduceAdd, Nat.reduceMul, Nat.reduceLT, Nat.reduceLeDiff, Nat.reduceSub, reduceCtorEq, reduceIte, Int.reduceToNat, beq_self_eq_true, Bool.and_self, rO]
  refine .inr (bxo [(1000000, 1000000)] rfl ?_); simp only [go_sem, Int.reduceEq, Int.reduceNe, Int.reduceLT, Int.reduceLE, Nat.reduceEqDiff, Nat.reduceAdd, Nat.reduceMul, Nat.reduceLT, Nat.reduceLeDiff, Nat.reduceSub, reduceCtorEq, reduceIte, Int.reduceToNat, beq_self_eq_true, Bool.and_self, rO]; refine ⟨_, _, h2, ?_⟩; try simp only [go_sem, Int.reduceEq, Int.reduceNe, Int.reduceLT, Int.reduceLE, Nat.reduceEqDiff, Nat.reduceAdd, Nat.reduceMul, Nat.reduceLT, Nat.reduceLeDiff, Nat.reduceSub, reduceCtorEq, reduceIte, Int.reduceToNat, beq_self_eq_true, Bool.and_self, rO]
  refine hNb _ (VWp.keep [2] [1000000] ?_); simp only [go_sem, Int.reduceEq, Int.reduceNe, Int.reduceLT, Int.reduceLE, Nat.reduceEqDiff, Nat.reduceAdd, Nat.reduceMul, Nat.reduceLT, Nat.reduceLeDiff, Nat.reduceSub, reduceCtorEq, reduceIte, Int.reduceToNat, beq_self_eq_true, Bool.and_self, rO]
  refine vwp_ret ?_
  simp only [go_sem, Int.reduceEq, Int.reduceNe, Int.reduceLT, Int.reduceLE, Nat.reduceEqDiff, Nat.reduceAdd, Nat.reduceMul, Nat.reduceLT, Nat.reduceLeDiff, Nat.reduceSub, reduceCtorEq, reduceIte, Int.reduceToNat, beq_self_eq_true, Bool.and_self, rO]
  first | exact ⟨LeV.refl _, rfl⟩ | exact LeV.refl _
theorem entsQ_step (m : Nat) (st : Rd) (h : st.1 = false) : entsQ (m + 1) st = ((entQ st).1 :: (entsQ m (entQ st).2).1, (entsQ m (entQ st).2).2) := by
  simp only [entsQ, h, Bool.false_eq_true, if_false]
theorem entsQ_stop (m : Nat) (st : Rd) (h : m = 0 ∨ st.1 = true) : entsQ m st = ([], st) := by
  cases m with
  | zero => rfl
  | succ m => rcases h with h | h; cases h; unfold entsQ; rw [if_pos h]
set_option maxHeartbeats 16000000 in
set_option maxRecDepth 4000 in
theorem rDecode_spec (b : Bs) (hb : b.length ≤ 9223372036854775807) : Spec Tryz.prog 18 [.sl 1 (bytesR b)] (.tup [catV (decC b).1, .int .i64 (decC b).2]) := by
  obtain ⟨n1, st1, e1⟩ : ∃ n st, twoQ (false, b) = (n, st) := ⟨_, _, rfl⟩
  have hp1 := rpair_specB (false, b) hb
  have n1lt := twoQ_lt (false, b)
  have st1le := twoQ_len (false, b)
  rw [e1] at hp1 n1lt st1le
  simp only at n1lt st1le
  obtain ⟨q1, b1⟩ := st1
  obtain ⟨ES, S1, eE⟩ : ∃ l st, entsQ n1 (q1, b1) = (l, st) := ⟨_, _, rfl⟩
  refine spec_of tt_ok Tryz.func18 rfl (by decide) Tryz.ntmps18 (congrArg Array.toList Tryz.results18) (by simp) (by decide) rfl rfl (fun F hF => ?_)
  refine vwp_seq_k fun Na hNa => vreg tt_ok hF rfl ?_; simp only [go_sem, Int.reduceEq, Int.reduceNe, Int.reduceLT, Int.reduceLE, Nat.reduceEqDiff, Nat.reduceAdd, Nat.reduceMul, Nat.reduceLT, Nat.reduceLeDiff, Nat.reduceSub, reduceCtorEq, reduceIte, Int.reduceToNat, beq_self_eq_true, Bool.and_self, rO]
  refine hNa _ (VWp.keepR [0,2] [2] tt_ok hF rfl fun Nb hNb => ?_); simp only [go_sem, Int.reduceEq, Int.reduceNe, Int.reduceLT, Int.reduceLE, Nat.reduceEqDiff, Nat.reduceAdd, Nat.reduceMul, Nat.reduceLT, Nat.reduceLeDiff, Nat.reduceSub, reduceCtorEq, reduceIte, Int.reduceToNat, beq_self_eq_true, Bool.and_self, rO]
  refine hNb _ (VWp.keepR [2,4] [2,13] tt_ok hF rfl fun Nc hNc => ?_); simp only [go_sem, Int.reduceEq, Int.reduceNe, Int.reduceLT, Int.reduceLE, Nat.reduceEqDiff, Nat.reduceAdd, Nat.reduceMul, Nat.reduceLT, Nat.reduceLeDiff, Nat.reduceSub, reduceCtorEq, reduceIte, Int.reduceToNat, beq_self_eq_true, Bool.and_self, rO]
  refine hNc _ (VWp.keepR [2,4,5] [2,13,5] tt_ok hF rfl fun Nd hNd => ?_); simp only [go_sem, Int.reduceEq, Int.reduceNe, Int.reduceLT, Int.reduceLE, Nat.reduceEqDiff, Nat.reduceAdd, Nat.reduceMul, Nat.reduceLT, Nat.reduceLeDiff, Nat.reduceSub, reduceCtorEq, reduceIte, Int.reduceToNat, beq_self_eq_true, Bool.and_self, rO]
  simp only [rO] at hp1
  refine .inr (bxo [(1000000, 13)] rfl ?_); simp only [go_sem, Int.reduceEq, Int.reduceNe, Int.reduceLT, Int.reduceLE, Nat.reduceEqDiff, Nat.reduceAdd, Nat.reduceMul, Nat.reduceLT, Nat.reduceLeDiff, Nat.reduceSub, reduceCtorEq, reduceIte, Int.reduceToNat, beq_self_eq_true, Bool.and_self, rO]; refine ⟨_, _, hp1, ?_⟩; try simp only [go_sem, Int.reduceEq, Int.reduceNe, Int.reduceLT, Int.reduceLE, Nat.reduceEqDiff, Nat.reduceAdd, Nat.reduceMul, Nat.reduceLT, Nat.reduceLeDiff, Nat.reduceSub, reduceCtorEq, reduceIte, Int.reduceToNat, beq_self_eq_true, Bool.and_self, rO]
  refine hNd _ (VWp.keep [2,4,5,6] [2,13,5] ?_); simp only [go_sem, Int.reduceEq, Int.reduceNe, Int.reduceLT, Int.reduceLE, Nat.reduceEqDiff, Nat.reduceAdd, Nat.reduceMul, Nat.reduceLT, Nat.reduceLeDiff, Nat.reduceSub, reduceCtorEq, reduceIte, Int.reduceToNat, beq_self_eq_true, Bool.and_self, rO]
  refine vwp_seq_k fun Ne hNe => ?_
  refine vwp_seq_k fun Nf hNf => vreg tt_ok hF rfl ?_; simp only [go_sem, Int.reduceEq, Int.reduceNe, Int.reduceLT, Int.reduceLE, Nat.reduceEqDiff, Nat.reduceAdd, Nat.reduceMul, Nat.reduceLT, Nat.reduceLeDiff, Nat.reduceSub, reduceCtorEq, reduceIte, Int.reduceToNat, beq_self_eq_true, Bool.and_self, rO]
  refine hNf _ (VWp.keep [2,4,5,6,7] [2,13,5] ?_); simp only [go_sem, Int.reduceEq, Int.reduceNe, Int.reduceLT, Int.reduceLE, Nat.reduceEqDiff, Nat.reduceAdd, Nat.reduceMul, Nat.reduceLT, Nat.reduceLeDiff, Nat.reduceSub, reduceCtorEq, reduceIte, Int.reduceToNat, beq_self_eq_true, Bool.and_self, rO]
  refine VWp.adoptB 91 4 45 (o := 5) (i := 0) rfl rfl rfl (by decide) ?_
  refine VWp.keep [2,4,5,6,7] [2,13,5,91] ?_; simp only [go_sem, Int.reduceEq, Int.reduceNe, Int.reduceLT, Int.reduceLE, Nat.reduceEqDiff, Nat.reduceAdd, Nat.reduceMul, Nat.reduceLT, Nat.reduceLeDiff, Nat.reduceSub, reduceCtorEq, reduceIte, Int.reduceToNat, beq_self_eq_true, Bool.and_self, rO]
  refine vwp_block (vloop (fun z : Rd × List Ent => [(2, .ptr 2 0), (4, .ptr 13 0), (5, .ptr 5 0), (6, .int .i64 (n1 : Int)), (7, .int .i64 (z.2.length : Int))])
    (fun z => [(2, .box 31 [.nil, .nil]), (13, .box 92 [.sl 1 (bytesR z.1.2), .bool z.1.1]), (5, .box 31 [.own 91 z.2.length, .nil]), (91, .arr 4 45 (z.2.map entC))])
    (fun z => z.2 ++ (entsQ (n1 - z.2.length) z.1).1 = ES ∧ (entsQ (n1 - z.2.length) z.1).2 = S1 ∧ z.1.2.length ≤ b.length ∧ z.2.length ≤ n1) (fun z => n1 - z.2.length) ((q1, b1), [])
    ⟨by simp [eE], by simp [eE], st1le, Nat.zero_le _⟩ (by simp only [go_sem, Int.reduceEq, Int.reduceNe, Int.reduceLT, Int.reduceLE, Nat.reduceEqDiff, Nat.reduceAdd, Nat.reduceMul, Nat.reduceLT, Nat.reduceLeDiff, Nat.reduceSub, reduceCtorEq, reduceIte, Int.reduceToNat, beq_self_eq_true, Bool.and_self, rO]) ?_)
  rintro ⟨⟨q, c⟩, acc⟩ ⟨i1, i2, i3, i4⟩
  have i1 : acc ++ (entsQ (n1 - acc.length) (q, c)).1 = ES := i1
  have i2 : (entsQ (n1 - acc.length) (q, c)).2 = S1 := i2
  have i3 : c.length ≤ b.length := i3
  have i4 : acc.length ≤ n1 := i4
  try dsimp only
  refine vwp_seq_k fun Ng hNg => ?_
  refine vmeet (fun z : Bool => [(2, .ptr 2 0), (4, .ptr 13 0), (5, .ptr 5 0), (6, .int .i64 (n1 : Int)), (7, .int .i64 (acc.length : Int)), (26, .bool z)])
    (fun _ => [(2, .box 31 [.nil, .nil]), (13, .box 92 [.sl 1 (bytesR c), .bool q]), (5, .box 31 [.own 91 acc.length, .nil]), (91, .arr 4 45 (acc.map entC))]) (fun z => z = (decide (acc.length < n1) && !q)) ?_ ?_
  · by_cases hm : acc.length < n1
    · have f1 : decide ((acc.length : Int) < (n1 : Int)) = true := decide_eq_true (by omega)
      refine vreg tt_ok hF rfl ?_; simp only [go_sem, Int.reduceEq, Int.reduceNe, Int.reduceLT, Int.reduceLE, Nat.reduceEqDiff, Nat.reduceAdd, Nat.reduceMul, Nat.reduceLT, Nat.reduceLeDiff, Nat.reduceSub, reduceCtorEq, reduceIte, Int.reduceToNat, beq_self_eq_true, Bool.and_self, rO, f1]
      exact ⟨_, rfl, by simp [hm]⟩
    · have f1 : decide ((acc.length : Int) < (n1 : Int)) = false := decide_eq_false (by omega)
      refine vreg tt_ok hF rfl ?_; simp only [go_sem, Int.reduceEq, Int.reduceNe, Int.reduceLT, Int.reduceLE, Nat.reduceEqDiff, Nat.reduceAdd, Nat.reduceMul, Nat.reduceLT, Nat.reduceLeDiff, Nat.reduceSub, reduceCtorEq, reduceIte, Int.reduceToNat, beq_self_eq_true, Bool.and_self, rO, f1]
      exact ⟨_, rfl, by simp [hm]⟩
  intro z hz
  try dsimp only
  refine vif rfl ⟨fun ht => ?_, fun hf => ?_⟩
  · rw [ht] at hz
    have hz := Bool.and_eq_true_iff.1 hz.symm
    have hm0 : acc.length < n1 := of_decide_eq_true hz.1
    have hq : q = false := by simpa using hz.2
    subst hq
    obtain ⟨m, hm⟩ : ∃ k, n1 - acc.length = k + 1 := ⟨n1 - acc.length - 1, by omega⟩
    have hm2 : n1 - (acc.length + 1) = m := by omega
    rw [hm, entsQ_step m (false, c) rfl] at i1 i2
    simp only at i1 i2
    have o1 := rtext_specB (false, c) (by show c.length ≤ _; omega)
    have g1 := txtR_len (false, c)
    have hE : entQ (false, c) = entQ (false, c) := rfl
    conv at hE => rhs; unfold entQ
    generalize txtR (false, c) = z1 at o1 g1 hE
    obtain ⟨nm, s1⟩ := z1
    simp only at o1 g1 hE
    have o2 := rone_specB s1 (by omega)
    have g2 := oneR_len s1
    generalize oneR s1 = z2 at o2 g2 hE
    obtain ⟨un, s2⟩ := z2
    simp only at o2 g2 hE
    have o3 := rtext_specB s2 (by omega)
    have g3 := txtR_len s2
    generalize txtR s2 = z3 at o3 g3 hE
    obtain ⟨sr, s3⟩ := z3
    simp only at o3 g3 hE
    have o4 := rpair_specB s3 (by omega)
    have g4 := twoQ_len s3
    generalize twoQ s3 = z4 at o4 g4 hE
    obtain ⟨fl, s4⟩ := z4
    simp only at o4 g4 hE
    rw [hE] at i1 i2
    simp only at i1 i2
    obtain ⟨p1, b1'⟩ := s1
    obtain ⟨p2, b2⟩ := s2
    obtain ⟨p3, b3⟩ := s3
    obtain ⟨p4, b4⟩ := s4
    simp only [rO] at o1 o2 o3 o4
    refine vwp_skip (hNg _ ?_)
    refine vwp_seq_k fun Ni hNi => ?_
    refine vwp_block ?_
    refine vwp_seq_k fun Nj hNj => vreg tt_ok hF rfl ?_; simp only [go_sem, Int.reduceEq, Int.reduceNe, Int.reduceLT, Int.reduceLE, Nat.reduceEqDiff, Nat.reduceAdd, Nat.reduceMul, Nat.reduceLT, Nat.reduceLeDiff, Nat.reduceSub, reduceCtorEq, reduceIte, Int.reduceToNat, beq_self_eq_true, Bool.and_self, rO]
    refine .inr (bxo [(1000000, 13)] rfl ?_); simp only [go_sem, Int.reduceEq, Int.reduceNe, Int.reduceLT, Int.reduceLE, Nat.reduceEqDiff, Nat.reduceAdd, Nat.reduceMul, Nat.reduceLT, Nat.reduceLeDiff, Nat.reduceSub, reduceCtorEq, reduceIte, Int.reduceToNat, beq_self_eq_true, Bool.and_self, rO]; refine ⟨_, _, o1, ?_⟩; try simp only [go_sem, Int.reduceEq, Int.reduceNe, Int.reduceLT, Int.reduceLE, Nat.reduceEqDiff, Nat.reduceAdd, Nat.reduceMul, Nat.reduceLT, Nat.reduceLeDiff, Nat.reduceSub, reduceCtorEq, reduceIte, Int.reduceToNat, beq_self_eq_true, Bool.and_self, rO]
    refine hNj _ (VWp.keepR [2,4,5,6,7,8] [2,13,5,91,8] tt_ok hF rfl fun Nk hNk => ?_); simp only [go_sem, Int.reduceEq, Int.reduceNe, Int.reduceLT, Int.reduceLE, Nat.reduceEqDiff, Nat.reduceAdd, Nat.reduceMul, Nat.reduceLT, Nat.reduceLeDiff, Nat.reduceSub, reduceCtorEq, reduceIte, Int.reduceToNat, beq_self_eq_true, Bool.and_self, rO]
    refine .inr (bxo [(1000000, 13)] rfl ?_); simp only [go_sem, Int.reduceEq, Int.reduceNe, Int.reduceLT, Int.reduceLE, Nat.reduceEqDiff, Nat.reduceAdd, Nat.reduceMul, Nat.reduceLT, Nat.reduceLeDiff, Nat.reduceSub, reduceCtorEq, reduceIte, Int.reduceToNat, beq_self_eq_true, Bool.and_self, rO]; refine ⟨_, _, o2, ?_⟩; try simp only [go_sem, Int.reduceEq, Int.reduceNe, Int.reduceLT, Int.reduceLE, Nat.reduceEqDiff, Nat.reduceAdd, Nat.reduceMul, Nat.reduceLT, Nat.reduceLeDiff, Nat.reduceSub, reduceCtorEq, reduceIte, Int.reduceToNat, beq_self_eq_true, Bool.and_self, rO]
    refine hNk _ (VWp.keepR [2,4,5,6,7,8] [2,13,5,91,8] tt_ok hF rfl fun Nl hNl => ?_); simp only [go_sem, Int.reduceEq, Int.reduceNe, Int.reduceLT, Int.reduceLE, Nat.reduceEqDiff, Nat.reduceAdd, Nat.reduceMul, Nat.reduceLT, Nat.reduceLeDiff, Nat.reduceSub, reduceCtorEq, reduceIte, Int.reduceToNat, beq_self_eq_true, Bool.and_self, rO]
    refine .inr (bxo [(1000000, 13)] rfl ?_); simp only [go_sem, Int.reduceEq, Int.reduceNe, Int.reduceLT, Int.reduceLE, Nat.reduceEqDiff, Nat.reduceAdd, Nat.reduceMul, Nat.reduceLT, Nat.reduceLeDiff, Nat.reduceSub, reduceCtorEq, reduceIte, Int.reduceToNat, beq_self_eq_true, Bool.and_self, rO]; refine ⟨_, _, o3, ?_⟩; try simp only [go_sem, Int.reduceEq, Int.reduceNe, Int.reduceLT, Int.reduceLE, Nat.reduceEqDiff, Nat.reduceAdd, Nat.reduceMul, Nat.reduceLT, Nat.reduceLeDiff, Nat.reduceSub, reduceCtorEq, reduceIte, Int.reduceToNat, beq_self_eq_true, Bool.and_self, rO]
    refine hNl _ (VWp.keepR [2,4,5,6,7,8] [2,13,5,91,8] tt_ok hF rfl fun Nm hNm => ?_); simp only [go_sem, Int.reduceEq, Int.reduceNe, Int.reduceLT, Int.reduceLE, Nat.reduceEqDiff, Nat.reduceAdd, Nat.reduceMul, Nat.reduceLT, Nat.reduceLeDiff, Nat.reduceSub, reduceCtorEq, reduceIte, Int.reduceToNat, beq_self_eq_true, Bool.and_self, rO]
    refine .inr (bxo [(1000000, 13)] rfl ?_); simp only [go_sem, Int.reduceEq, Int.reduceNe, Int.reduceLT, Int.reduceLE, Nat.reduceEqDiff, Nat.reduceAdd, Nat.reduceMul, Nat.reduceLT, Nat.reduceLeDiff, Nat.reduceSub, reduceCtorEq, reduceIte, Int.reduceToNat, beq_self_eq_true, Bool.and_self, rO]; refine ⟨_, _, o4, ?_⟩; try simp only [go_sem, Int.reduceEq, Int.reduceNe, Int.reduceLT, Int.reduceLE, Nat.reduceEqDiff, Nat.reduceAdd, Nat.reduceMul, Nat.reduceLT, Nat.reduceLeDiff, Nat.reduceSub, reduceCtorEq, reduceIte, Int.reduceToNat, beq_self_eq_true, Bool.and_self, rO]
    refine hNm _ (VWp.keep [2,4,5,6,7,8] [2,13,5,91,8] ?_); simp only [go_sem, Int.reduceEq, Int.reduceNe, Int.reduceLT, Int.reduceLE, Nat.reduceEqDiff, Nat.reduceAdd, Nat.reduceMul, Nat.reduceLT, Nat.reduceLeDiff, Nat.reduceSub, reduceCtorEq, reduceIte, Int.reduceToNat, beq_self_eq_true, Bool.and_self, rO]
    refine vreg tt_ok hF rfl ?_; simp only [go_sem, Int.reduceEq, Int.reduceNe, Int.reduceLT, Int.reduceLE, Nat.reduceEqDiff, Nat.reduceAdd, Nat.reduceMul, Nat.reduceLT, Nat.reduceLeDiff, Nat.reduceSub, reduceCtorEq, reduceIte, Int.reduceToNat, beq_self_eq_true, Bool.and_self, rO]
    refine ⟨by omega, ?_⟩
    refine hNi _ (VWp.keep [2,4,5,6,7] [2,13,5,91] ?_); simp only [go_sem, Int.reduceEq, Int.reduceNe, Int.reduceLT, Int.reduceLE, Nat.reduceEqDiff, Nat.reduceAdd, Nat.reduceMul, Nat.reduceLT, Nat.reduceLeDiff, Nat.reduceSub, reduceCtorEq, reduceIte, Int.reduceToNat, beq_self_eq_true, Bool.and_self, rO]
    refine vreg tt_ok hF rfl ?_; simp only [go_sem, Int.reduceEq, Int.reduceNe, Int.reduceLT, Int.reduceLE, Nat.reduceEqDiff, Nat.reduceAdd, Nat.reduceMul, Nat.reduceLT, Nat.reduceLeDiff, Nat.reduceSub, reduceCtorEq, reduceIte, Int.reduceToNat, beq_self_eq_true, Bool.and_self, rO]
    rw [wrap_i64 (by omega) (by omega)]
    refine ⟨((p4, b4), acc ++ [⟨nm, (un : Int), sr, (fl : Int)⟩]), ⟨by simpa [hm2] using i1, by simpa [hm2] using i2, by simp only at g1 g2 g3 g4; show b4.length ≤ b.length; omega, by simp; omega⟩, by simp; omega, ?_⟩
    simp [entC]
  · rw [hf] at hz
    have hstop : n1 - acc.length = 0 ∨ q = true := by
      rcases Nat.lt_or_ge acc.length n1 with h | h
      · right; rw [decide_eq_true h] at hz; simpa using hz
      · exact .inl (by omega)
    rw [entsQ_stop _ (q, c) hstop] at i1 i2
    simp only [List.append_nil] at i1 i2
    subst i1 i2
    clear hz hf hstop
    have i5 : acc.length ≤ 65535 := by omega
    obtain ⟨n2, st2, e2⟩ : ∃ n st, twoQ (q, c) = (n, st) := ⟨_, _, rfl⟩
    have hp2 := rpair_specB (q, c) (by show c.length ≤ _; omega)
    have n2lt := twoQ_lt (q, c)
    have st2le := twoQ_len (q, c)
    rw [e2] at hp2 n2lt st2le
    simp only at n2lt st2le
    obtain ⟨q2, b2⟩ := st2
    obtain ⟨GS, S2, eG⟩ : ∃ l st, grpsR n2 (q2, b2) = (l, st) := ⟨_, _, rfl⟩
    have hall : allQ b = (⟨acc, GS⟩, S2) := by
      unfold allQ
      simp only [e1, eE, e2, eG]
    have hR := allQ_decC b
    rw [hall] at hR
    simp only at hR
    clear hall eE
    refine vwp_exit ?_
    simp only [go_sem, Int.reduceEq, Int.reduceNe, Int.reduceLT, Int.reduceLE, Nat.reduceEqDiff, Nat.reduceAdd, Nat.reduceMul, Nat.reduceLT, Nat.reduceLeDiff, Nat.reduceSub, reduceCtorEq, reduceIte, Int.reduceToNat, beq_self_eq_true, Bool.and_self, rO]
    refine hNe _ (VWp.keep [2,4,5] [2,13,5,91] ?_); simp only [go_sem, Int.reduceEq, Int.reduceNe, Int.reduceLT, Int.reduceLE, Nat.reduceEqDiff, Nat.reduceAdd, Nat.reduceMul, Nat.reduceLT, Nat.reduceLeDiff, Nat.reduceSub, reduceCtorEq, reduceIte, Int.reduceToNat, beq_self_eq_true, Bool.and_self, rO]
    simp only [rO] at hp2
    refine vwp_seq_k fun Nn hNn => vreg tt_ok hF rfl ?_; simp only [go_sem, Int.reduceEq, Int.reduceNe, Int.reduceLT, Int.reduceLE, Nat.reduceEqDiff, Nat.reduceAdd, Nat.reduceMul, Nat.reduceLT, Nat.reduceLeDiff, Nat.reduceSub, reduceCtorEq, reduceIte, Int.reduceToNat, beq_self_eq_true, Bool.and_self, rO]
    refine .inr (bxo [(1000000, 13)] rfl ?_); simp only [go_sem, Int.reduceEq, Int.reduceNe, Int.reduceLT, Int.reduceLE, Nat.reduceEqDiff, Nat.reduceAdd, Nat.reduceMul, Nat.reduceLT, Nat.reduceLeDiff, Nat.reduceSub, reduceCtorEq, reduceIte, Int.reduceToNat, beq_self_eq_true, Bool.and_self, rO]; refine ⟨_, _, hp2, ?_⟩; try simp only [go_sem, Int.reduceEq, Int.reduceNe, Int.reduceLT, Int.reduceLE, Nat.reduceEqDiff, Nat.reduceAdd, Nat.reduceMul, Nat.reduceLT, Nat.reduceLeDiff, Nat.reduceSub, reduceCtorEq, reduceIte, Int.reduceToNat, beq_self_eq_true, Bool.and_self, rO]
    refine hNn _ (VWp.keep [2,4,5,6] [2,13,5,91] ?_); simp only [go_sem, Int.reduceEq, Int.reduceNe, Int.reduceLT, Int.reduceLE, Nat.reduceEqDiff, Nat.reduceAdd, Nat.reduceMul, Nat.reduceLT, Nat.reduceLeDiff, Nat.reduceSub, reduceCtorEq, reduceIte, Int.reduceToNat, beq_self_eq_true, Bool.and_self, rO]
    refine vwp_seq_k fun No hNo => ?_
    refine vwp_seq_k fun Np hNp => vreg tt_ok hF rfl ?_; simp only [go_sem, Int.reduceEq, Int.reduceNe, Int.reduceLT, Int.reduceLE, Nat.reduceEqDiff, Nat.reduceAdd, Nat.reduceMul, Nat.reduceLT, Nat.reduceLeDiff, Nat.reduceSub, reduceCtorEq, reduceIte, Int.reduceToNat, beq_self_eq_true, Bool.and_self, rO]
    refine hNp _ (VWp.keep [2,4,5,6,9] [2,13,5,91] ?_); simp only [go_sem, Int.reduceEq, Int.reduceNe, Int.reduceLT, Int.reduceLE, Nat.reduceEqDiff, Nat.reduceAdd, Nat.reduceMul, Nat.reduceLT, Nat.reduceLeDiff, Nat.reduceSub, reduceCtorEq, reduceIte, Int.reduceToNat, beq_self_eq_true, Bool.and_self, rO]
    refine VWp.adoptB 90 2 47 (o := 5) (i := 1) rfl rfl rfl (by decide) ?_
    refine VWp.keep [2,4,5,6,9] [2,13,5,91,90] ?_; simp only [go_sem, Int.reduceEq, Int.reduceNe, Int.reduceLT, Int.reduceLE, Nat.reduceEqDiff, Nat.reduceAdd, Nat.reduceMul, Nat.reduceLT, Nat.reduceLeDiff, Nat.reduceSub, reduceCtorEq, reduceIte, Int.reduceToNat, beq_self_eq_true, Bool.and_self, rO]
    refine vwp_block (vloop (fun z : Rd × List Grp => [(2, .ptr 2 0), (4, .ptr 13 0), (5, .ptr 5 0), (6, .int .i64 (n2 : Int)), (9, .int .i64 (z.2.length : Int))])
      (fun z => [(2, .box 31 [.nil, .nil]), (13, .box 92 [.sl 1 (bytesR z.1.2), .bool z.1.1]), (5, .box 31 [.own 91 acc.length, .own 90 z.2.length]), (91, .arr 4 45 (acc.map entC)), (90, .arr 2 47 (z.2.map grpC))])
      (fun z => z.2 ++ (grpsR (n2 - z.2.length) z.1).1 = GS ∧ (grpsR (n2 - z.2.length) z.1).2 = S2 ∧ z.1.2.length ≤ b.length ∧ z.2.length ≤ n2) (fun z => n2 - z.2.length) ((q2, b2), [])
      ⟨by simp [eG], by simp [eG], Nat.le_trans st2le i3, Nat.zero_le _⟩ (by simp only [go_sem, Int.reduceEq, Int.reduceNe, Int.reduceLT, Int.reduceLE, Nat.reduceEqDiff, Nat.reduceAdd, Nat.reduceMul, Nat.reduceLT, Nat.reduceLeDiff, Nat.reduceSub, reduceCtorEq, reduceIte, Int.reduceToNat, beq_self_eq_true, Bool.and_self, rO]) ?_)
    clear eG e2 hp2 q2 b2 i3 i4 e1 st1le n1lt st2le
    rintro ⟨⟨p, c2⟩, gcc⟩ ⟨i1, i2, i3, i4⟩
    have i1 : gcc ++ (grpsR (n2 - gcc.length) (p, c2)).1 = GS := i1
    have i2 : (grpsR (n2 - gcc.length) (p, c2)).2 = S2 := i2
    have i3 : c2.length ≤ b.length := i3
    have i4 : gcc.length ≤ n2 := i4
    try dsimp only
    refine vwp_seq_k fun Nq hNq => ?_
    refine vmeet (fun z : Bool => [(2, .ptr 2 0), (4, .ptr 13 0), (5, .ptr 5 0), (6, .int .i64 (n2 : Int)), (9, .int .i64 (gcc.length : Int)), (58, .bool z)])
      (fun _ => [(2, .box 31 [.nil, .nil]), (13, .box 92 [.sl 1 (bytesR c2), .bool p]), (5, .box 31 [.own 91 acc.length, .own 90 gcc.length]), (91, .arr 4 45 (acc.map entC)), (90, .arr 2 47 (gcc.map grpC))]) (fun z => z = (decide (gcc.length < n2) && !p)) ?_ ?_
    · by_cases hm : gcc.length < n2
      · have f1 : decide ((gcc.length : Int) < (n2 : Int)) = true := decide_eq_true (by omega)
        refine vreg tt_ok hF rfl ?_; simp only [go_sem, Int.reduceEq, Int.reduceNe, Int.reduceLT, Int.reduceLE, Nat.reduceEqDiff, Nat.reduceAdd, Nat.reduceMul, Nat.reduceLT, Nat.reduceLeDiff, Nat.reduceSub, reduceCtorEq, reduceIte, Int.reduceToNat, beq_self_eq_true, Bool.and_self, rO, f1]
        exact ⟨_, rfl, by simp [hm]⟩
      · have f1 : decide ((gcc.length : Int) < (n2 : Int)) = false := decide_eq_false (by omega)
        refine vreg tt_ok hF rfl ?_; simp only [go_sem, Int.reduceEq, Int.reduceNe, Int.reduceLT, Int.reduceLE, Nat.reduceEqDiff, Nat.reduceAdd, Nat.reduceMul, Nat.reduceLT, Nat.reduceLeDiff, Nat.reduceSub, reduceCtorEq, reduceIte, Int.reduceToNat, beq_self_eq_true, Bool.and_self, rO, f1]
        exact ⟨_, rfl, by simp [hm]⟩
    intro z hz
    try dsimp only
    refine vif rfl ⟨fun ht => ?_, fun hf => ?_⟩
    · rw [ht] at hz
      have hz := Bool.and_eq_true_iff.1 hz.symm
      have hm0 : gcc.length < n2 := of_decide_eq_true hz.1
      have hq : p = false := by simpa using hz.2
      subst hq
      obtain ⟨m, hm⟩ : ∃ k, n2 - gcc.length = k + 1 := ⟨n2 - gcc.length - 1, by omega⟩
      have hm2 : n2 - (gcc.length + 1) = m := by omega
      rw [hm, grpsR_step m (false, c2) rfl] at i1 i2
      simp only at i1 i2
      have o1 := rtext_specB (false, c2) (by show c2.length ≤ _; omega)
      have g1 := txtR_len (false, c2)
      have hE : grpR (false, c2) = grpR (false, c2) := rfl
      conv at hE => rhs; unfold grpR
      generalize txtR (false, c2) = z1 at o1 g1 hE
      obtain ⟨nm, s1⟩ := z1
      simp only at o1 g1 hE
      have o2 := rone_specB s1 (by omega)
      have g2 := oneR_len s1
      generalize oneR s1 = z2 at o2 g2 hE
      obtain ⟨un, s2⟩ := z2
      simp only at o2 g2 hE
      rw [hE] at i1 i2
      simp only at i1 i2
      obtain ⟨p1, b1'⟩ := s1
      obtain ⟨p2, b2⟩ := s2
      simp only [rO] at o1 o2
      refine vwp_skip (hNq _ ?_)
      refine vwp_seq_k fun Ns hNs => ?_
      refine vwp_block ?_
      refine vwp_seq_k fun Nt hNt => vreg tt_ok hF rfl ?_; simp only [go_sem, Int.reduceEq, Int.reduceNe, Int.reduceLT, Int.reduceLE, Nat.reduceEqDiff, Nat.reduceAdd, Nat.reduceMul, Nat.reduceLT, Nat.reduceLeDiff, Nat.reduceSub, reduceCtorEq, reduceIte, Int.reduceToNat, beq_self_eq_true, Bool.and_self, rO]
      refine .inr (bxo [(1000000, 13)] rfl ?_); simp only [go_sem, Int.reduceEq, Int.reduceNe, Int.reduceLT, Int.reduceLE, Nat.reduceEqDiff, Nat.reduceAdd, Nat.reduceMul, Nat.reduceLT, Nat.reduceLeDiff, Nat.reduceSub, reduceCtorEq, reduceIte, Int.reduceToNat, beq_self_eq_true, Bool.and_self, rO]; refine ⟨_, _, o1, ?_⟩; try simp only [go_sem, Int.reduceEq, Int.reduceNe, Int.reduceLT, Int.reduceLE, Nat.reduceEqDiff, Nat.reduceAdd, Nat.reduceMul, Nat.reduceLT, Nat.reduceLeDiff, Nat.reduceSub, reduceCtorEq, reduceIte, Int.reduceToNat, beq_self_eq_true, Bool.and_self, rO]
      refine hNt _ (VWp.keepR [2,4,5,6,9,10] [2,13,5,91,90,10] tt_ok hF rfl fun Nu hNu => ?_); simp only [go_sem, Int.reduceEq, Int.reduceNe, Int.reduceLT, Int.reduceLE, Nat.reduceEqDiff, Nat.reduceAdd, Nat.reduceMul, Nat.reduceLT, Nat.reduceLeDiff, Nat.reduceSub, reduceCtorEq, reduceIte, Int.reduceToNat, beq_self_eq_true, Bool.and_self, rO]
      refine .inr (bxo [(1000000, 13)] rfl ?_); simp only [go_sem, Int.reduceEq, Int.reduceNe, Int.reduceLT, Int.reduceLE, Nat.reduceEqDiff, Nat.reduceAdd, Nat.reduceMul, Nat.reduceLT, Nat.reduceLeDiff, Nat.reduceSub, reduceCtorEq, reduceIte, Int.reduceToNat, beq_self_eq_true, Bool.and_self, rO]; refine ⟨_, _, o2, ?_⟩; try simp only [go_sem, Int.reduceEq, Int.reduceNe, Int.reduceLT, Int.reduceLE, Nat.reduceEqDiff, Nat.reduceAdd, Nat.reduceMul, Nat.reduceLT, Nat.reduceLeDiff, Nat.reduceSub, reduceCtorEq, reduceIte, Int.reduceToNat, beq_self_eq_true, Bool.and_self, rO]
      refine hNu _ (VWp.keep [2,4,5,6,9,10] [2,13,5,91,90,10] ?_); simp only [go_sem, Int.reduceEq, Int.reduceNe, Int.reduceLT, Int.reduceLE, Nat.reduceEqDiff, Nat.reduceAdd, Nat.reduceMul, Nat.reduceLT, Nat.reduceLeDiff, Nat.reduceSub, reduceCtorEq, reduceIte, Int.reduceToNat, beq_self_eq_true, Bool.and_self, rO]
      refine vreg tt_ok hF rfl ?_; simp only [go_sem, Int.reduceEq, Int.reduceNe, Int.reduceLT, Int.reduceLE, Nat.reduceEqDiff, Nat.reduceAdd, Nat.reduceMul, Nat.reduceLT, Nat.reduceLeDiff, Nat.reduceSub, reduceCtorEq, reduceIte, Int.reduceToNat, beq_self_eq_true, Bool.and_self, rO]
      refine ⟨by omega, ?_⟩
      refine hNs _ (VWp.keep [2,4,5,6,9] [2,13,5,91,90] ?_); simp only [go_sem, Int.reduceEq, Int.reduceNe, Int.reduceLT, Int.reduceLE, Nat.reduceEqDiff, Nat.reduceAdd, Nat.reduceMul, Nat.reduceLT, Nat.reduceLeDiff, Nat.reduceSub, reduceCtorEq, reduceIte, Int.reduceToNat, beq_self_eq_true, Bool.and_self, rO]
      refine vreg tt_ok hF rfl ?_; simp only [go_sem, Int.reduceEq, Int.reduceNe, Int.reduceLT, Int.reduceLE, Nat.reduceEqDiff, Nat.reduceAdd, Nat.reduceMul, Nat.reduceLT, Nat.reduceLeDiff, Nat.reduceSub, reduceCtorEq, reduceIte, Int.reduceToNat, beq_self_eq_true, Bool.and_self, rO]
      rw [wrap_i64 (by omega) (by omega)]
      refine ⟨((p2, b2), gcc ++ [⟨nm, (un : Int)⟩]), ⟨by simpa [hm2] using i1, by simpa [hm2] using i2, by simp only at g1 g2; show b2.length ≤ b.length; omega, by simp; omega⟩, by simp; omega, ?_⟩
      simp [grpC]
    · rw [hf] at hz
      have hstop : n2 - gcc.length = 0 ∨ p = true := by
        rcases Nat.lt_or_ge gcc.length n2 with h | h
        · right; rw [decide_eq_true h] at hz; simpa using hz
        · exact .inl (by omega)
      rw [grpsR_stop _ (p, c2) hstop] at i1 i2
      simp only [List.append_nil] at i1 i2
      subst i1 i2
      clear hz hf hstop
      have hVl := Valid_spec ⟨acc, gcc⟩ (by show acc.length ≤ _; omega) (by show gcc.length ≤ _; omega)
      refine vwp_exit ?_
      simp only [go_sem, Int.reduceEq, Int.reduceNe, Int.reduceLT, Int.reduceLE, Nat.reduceEqDiff, Nat.reduceAdd, Nat.reduceMul, Nat.reduceLT, Nat.reduceLeDiff, Nat.reduceSub, reduceCtorEq, reduceIte, Int.reduceToNat, beq_self_eq_true, Bool.and_self, rO]
      refine hNo _ (VWp.keep [2,4,5] [2,13,5,91,90] ?_); simp only [go_sem, Int.reduceEq, Int.reduceNe, Int.reduceLT, Int.reduceLE, Nat.reduceEqDiff, Nat.reduceAdd, Nat.reduceMul, Nat.reduceLT, Nat.reduceLeDiff, Nat.reduceSub, reduceCtorEq, reduceIte, Int.reduceToNat, beq_self_eq_true, Bool.and_self, rO]
      refine vwp_seq_k fun Nv hNv => ?_
      refine vmeet (fun z : Bool => [(2, .ptr 2 0), (5, .ptr 5 0), (89, .bool z)])
        (fun _ => [(2, .box 31 [.nil, .nil]), (5, .box 31 [.own 91 acc.length, .own 90 gcc.length]), (91, .arr 4 45 (acc.map entC)), (90, .arr 2 47 (gcc.map grpC))]) (fun z => z = (p || decide (0 < c2.length) || !validC ⟨acc, gcc⟩)) ?_ ?_
      · cases p with
        | true =>
          refine vreg tt_ok hF rfl ?_; simp only [go_sem, Int.reduceEq, Int.reduceNe, Int.reduceLT, Int.reduceLE, Nat.reduceEqDiff, Nat.reduceAdd, Nat.reduceMul, Nat.reduceLT, Nat.reduceLeDiff, Nat.reduceSub, reduceCtorEq, reduceIte, Int.reduceToNat, beq_self_eq_true, Bool.and_self, rO]
          exact ⟨_, rfl, by simp⟩
        | false =>
          by_cases hl : 0 < c2.length
          · have f1 : decide ((0 : Int) < ((bytesR c2).length : Int)) = true := decide_eq_true (by rw [bytesR_len]; omega)
            refine vreg tt_ok hF rfl ?_; simp only [go_sem, Int.reduceEq, Int.reduceNe, Int.reduceLT, Int.reduceLE, Nat.reduceEqDiff, Nat.reduceAdd, Nat.reduceMul, Nat.reduceLT, Nat.reduceLeDiff, Nat.reduceSub, reduceCtorEq, reduceIte, Int.reduceToNat, beq_self_eq_true, Bool.and_self, rO, f1]
            exact ⟨_, rfl, by simp [hl]⟩
          · have f1 : decide ((0 : Int) < ((bytesR c2).length : Int)) = false := decide_eq_false (by rw [bytesR_len]; omega)
            refine vreg tt_ok hF rfl ?_; simp only [go_sem, Int.reduceEq, Int.reduceNe, Int.reduceLT, Int.reduceLE, Nat.reduceEqDiff, Nat.reduceAdd, Nat.reduceMul, Nat.reduceLT, Nat.reduceLeDiff, Nat.reduceSub, reduceCtorEq, reduceIte, Int.reduceToNat, beq_self_eq_true, Bool.and_self, rO, f1]
            refine .inl ⟨_, hVl, ?_⟩; simp only [go_sem, Int.reduceEq, Int.reduceNe, Int.reduceLT, Int.reduceLE, Nat.reduceEqDiff, Nat.reduceAdd, Nat.reduceMul, Nat.reduceLT, Nat.reduceLeDiff, Nat.reduceSub, reduceCtorEq, reduceIte, Int.reduceToNat, beq_self_eq_true, Bool.and_self, rO]
            exact ⟨_, rfl, by simp [hl]⟩
      intro z hz
      rw [← hz] at hR
      refine vif rfl ⟨fun ht => ?_, fun hf => ?_⟩
      · rw [ht, if_pos rfl] at hR
        refine vwp_seq_k fun Ny hNy => vreg tt_ok hF rfl ?_; simp only [go_sem, Int.reduceEq, Int.reduceNe, Int.reduceLT, Int.reduceLE, Nat.reduceEqDiff, Nat.reduceAdd, Nat.reduceMul, Nat.reduceLT, Nat.reduceLeDiff, Nat.reduceSub, reduceCtorEq, reduceIte, Int.reduceToNat, beq_self_eq_true, Bool.and_self, rO]
        refine hNy _ (VWp.keep [2,3] [2] ?_); simp only [go_sem, Int.reduceEq, Int.reduceNe, Int.reduceLT, Int.reduceLE, Nat.reduceEqDiff, Nat.reduceAdd, Nat.reduceMul, Nat.reduceLT, Nat.reduceLeDiff, Nat.reduceSub, reduceCtorEq, reduceIte, Int.reduceToNat, beq_self_eq_true, Bool.and_self, rO]
        refine vwp_ret ?_
        simp only [go_sem, Int.reduceEq, Int.reduceNe, Int.reduceLT, Int.reduceLE, Nat.reduceEqDiff, Nat.reduceAdd, Nat.reduceMul, Nat.reduceLT, Nat.reduceLeDiff, Nat.reduceSub, reduceCtorEq, reduceIte, Int.reduceToNat, beq_self_eq_true, Bool.and_self, rO]
        rw [hR]
        exact LeV.tup ⟨agg2 (LeV.nil 4) (LeV.nil 2), LeV.refl _, trivial⟩
      · rw [hf, if_neg (by decide)] at hR
        refine vwp_skip (hNv _ ?_)
        refine vwp_seq_k fun Nz hNz => vreg tt_ok hF rfl ?_; simp only [go_sem, Int.reduceEq, Int.reduceNe, Int.reduceLT, Int.reduceLE, Nat.reduceEqDiff, Nat.reduceAdd, Nat.reduceMul, Nat.reduceLT, Nat.reduceLeDiff, Nat.reduceSub, reduceCtorEq, reduceIte, Int.reduceToNat, beq_self_eq_true, Bool.and_self, rO]
        refine hNz _ (VWp.keep [2,3] [2,91,90] ?_); simp only [go_sem, Int.reduceEq, Int.reduceNe, Int.reduceLT, Int.reduceLE, Nat.reduceEqDiff, Nat.reduceAdd, Nat.reduceMul, Nat.reduceLT, Nat.reduceLeDiff, Nat.reduceSub, reduceCtorEq, reduceIte, Int.reduceToNat, beq_self_eq_true, Bool.and_self, rO]
        refine vwp_ret ?_
        simp only [go_sem, Int.reduceEq, Int.reduceNe, Int.reduceLT, Int.reduceLE, Nat.reduceEqDiff, Nat.reduceAdd, Nat.reduceMul, Nat.reduceLT, Nat.reduceLeDiff, Nat.reduceSub, reduceCtorEq, reduceIte, Int.reduceToNat, beq_self_eq_true, Bool.and_self, rO]
        rw [hR]
        exact LeV.refl _
theorem decC_len (b : Bs) : (decC b).1.es.length ≤ 256 ∧ (decC b).1.gs.length ≤ 32 := by
  unfold decC
  split
  · exact ⟨by simp, by simp⟩
  · split
    · rename_i h; have := validC_all h; exact ⟨this.1, this.2.1⟩
    · exact ⟨by simp, by simp⟩
set_option maxHeartbeats 4000000 in
set_option maxRecDepth 4000 in
theorem decodes_spec (b : Bs) (hb : b.length ≤ 9223372036854775807) : Spec Tryz.prog 9 [.sl 1 (bytesR b)] (.bool true) := by
  obtain ⟨l1, l2⟩ := decC_len b
  have h1 := Decode_spec b hb
  have h2 := rDecode_spec b hb
  generalize (decC b).1 = d at h1 h2 l1 l2
  generalize (decC b).2 = k at h1 h2
  refine spec_of tt_ok Tryz.func9 rfl (by decide) Tryz.ntmps9 (congrArg Array.toList Tryz.results9) (by simp) (by decide) rfl rfl (fun F hF => ?_)
  refine vwp_seq_k fun Na hNa => vreg tt_ok hF rfl ?_; simp only [go_sem, Int.reduceEq, Int.reduceNe, Int.reduceLT, Int.reduceLE, Nat.reduceEqDiff, Nat.reduceAdd, Nat.reduceMul, Nat.reduceLT, Nat.reduceLeDiff, Nat.reduceSub, reduceCtorEq, reduceIte, Int.reduceToNat, beq_self_eq_true, Bool.and_self, rO]
  refine hNa _ (VWp.keepR [0] [] tt_ok hF rfl fun Nb hNb => ?_); simp only [go_sem, Int.reduceEq, Int.reduceNe, Int.reduceLT, Int.reduceLE, Nat.reduceEqDiff, Nat.reduceAdd, Nat.reduceMul, Nat.reduceLT, Nat.reduceLeDiff, Nat.reduceSub, reduceCtorEq, reduceIte, Int.reduceToNat, beq_self_eq_true, Bool.and_self, rO]
  refine .inl ⟨_, h1, ?_⟩; try simp only [go_sem, Int.reduceEq, Int.reduceNe, Int.reduceLT, Int.reduceLE, Nat.reduceEqDiff, Nat.reduceAdd, Nat.reduceMul, Nat.reduceLT, Nat.reduceLeDiff, Nat.reduceSub, reduceCtorEq, reduceIte, Int.reduceToNat, beq_self_eq_true, Bool.and_self, rO]
  refine hNb _ (VWp.keepR [0,3,4] [3] tt_ok hF rfl fun Nc hNc => ?_); simp only [go_sem, Int.reduceEq, Int.reduceNe, Int.reduceLT, Int.reduceLE, Nat.reduceEqDiff, Nat.reduceAdd, Nat.reduceMul, Nat.reduceLT, Nat.reduceLeDiff, Nat.reduceSub, reduceCtorEq, reduceIte, Int.reduceToNat, beq_self_eq_true, Bool.and_self, rO]
  refine .inl ⟨_, h2, ?_⟩; try simp only [go_sem, Int.reduceEq, Int.reduceNe, Int.reduceLT, Int.reduceLE, Nat.reduceEqDiff, Nat.reduceAdd, Nat.reduceMul, Nat.reduceLT, Nat.reduceLeDiff, Nat.reduceSub, reduceCtorEq, reduceIte, Int.reduceToNat, beq_self_eq_true, Bool.and_self, rO]
  refine hNc _ (VWp.keep [3,4,5,6] [3,5] ?_); simp only [go_sem, Int.reduceEq, Int.reduceNe, Int.reduceLT, Int.reduceLE, Nat.reduceEqDiff, Nat.reduceAdd, Nat.reduceMul, Nat.reduceLT, Nat.reduceLeDiff, Nat.reduceSub, reduceCtorEq, reduceIte, Int.reduceToNat, beq_self_eq_true, Bool.and_self, rO]
  refine vwp_seq_k fun Nd hNd => vregd tt_ok mixed hF rfl (by kernel_rfl) (by kernel_rfl) ?_; simp only [go_sem, Int.reduceEq, Int.reduceNe, Int.reduceLT, Int.reduceLE, Nat.reduceEqDiff, Nat.reduceAdd, Nat.reduceMul, Nat.reduceLT, Nat.reduceLeDiff, Nat.reduceSub, reduceCtorEq, reduceIte, Int.reduceToNat, beq_self_eq_true, Bool.and_self, rO]
  refine .inl ⟨_, Ref_spec d (by omega) (by omega), ?_⟩; try simp only [go_sem, Int.reduceEq, Int.reduceNe, Int.reduceLT, Int.reduceLE, Nat.reduceEqDiff, Nat.reduceAdd, Nat.reduceMul, Nat.reduceLT, Nat.reduceLeDiff, Nat.reduceSub, reduceCtorEq, reduceIte, Int.reduceToNat, beq_self_eq_true, Bool.and_self, rO]
  refine .inl ⟨_, Same_spec d (by omega) (by omega), ?_⟩; try simp only [go_sem, Int.reduceEq, Int.reduceNe, Int.reduceLT, Int.reduceLE, Nat.reduceEqDiff, Nat.reduceAdd, Nat.reduceMul, Nat.reduceLT, Nat.reduceLeDiff, Nat.reduceSub, reduceCtorEq, reduceIte, Int.reduceToNat, beq_self_eq_true, Bool.and_self, rO]
  refine hNd _ (VWp.keep [2] [] ?_); simp only [go_sem, Int.reduceEq, Int.reduceNe, Int.reduceLT, Int.reduceLE, Nat.reduceEqDiff, Nat.reduceAdd, Nat.reduceMul, Nat.reduceLT, Nat.reduceLeDiff, Nat.reduceSub, reduceCtorEq, reduceIte, Int.reduceToNat, beq_self_eq_true, Bool.and_self, rO]
  refine vwp_ret ?_
  simp only [go_sem, Int.reduceEq, Int.reduceNe, Int.reduceLT, Int.reduceLE, Nat.reduceEqDiff, Nat.reduceAdd, Nat.reduceMul, Nat.reduceLT, Nat.reduceLeDiff, Nat.reduceSub, reduceCtorEq, reduceIte, Int.reduceToNat, beq_self_eq_true, Bool.and_self, rO]
  exact LeV.refl _
end Go.Proofs.YtldkmclfhjcicaaGreatDoor

/- CatalogCodes. -/
-- SIMP: beq_self_eq_true, Bool.and_self, bytesV
namespace Go.Proofs.YtldkmclfhjcicaaGreatDoor
open Go.RowKit
set_option linter.unusedVariables false
set_option linter.unusedSimpArgs false
theorem bytesR_set (b : Bs) (i : Nat) (x : UInt8) : (bytesR b).set i [V.int .u8 (x.toNat : Int)] = bytesR (b.set i x) := by unfold bytesR; rw [List.map_set]
theorem bytesR_snoc (b : Bs) (x : UInt8) : bytesR b ++ [[V.int .u8 (x.toNat : Int)]] = bytesR (b ++ [x]) := by unfold bytesR; rw [List.map_append]; rfl
theorem bytesR_flats (b : Bs) : ∀ v ∈ (bytesR b).flatten, flatV v = true := fun v hv => by
  rw [bytesR_flat] at hv
  obtain ⟨c, _, rfl⟩ := List.mem_map.1 hv
  rfl
set_option maxHeartbeats 16000000 in
set_option maxRecDepth 4000 in
theorem CatalogCodes_spec (c : Cat) (c1 : c.es.length ≤ 9223372036854775807) (c2 : c.gs.length ≤ 9223372036854775807) (l : List OpS) (hl : ∀ o ∈ l, OpOk o) (hn : l.length ≤ 9223372036854775807) (b : Bs) (hb : b.length ≤ 9223372036854775807) (p : Nat) (hp : p < 65536) (x : UInt8) :
    Spec Tryz.prog 3 [catV c, .sl 5 (l.map opC), .sl 1 (bytesR b), .int .u16 (p : Int), .int .u8 (x.toNat : Int)] (.bool true) := by
  have hok := okMake_make l
  have hv := hok.1
  obtain ⟨D, hD⟩ : ∃ D, makeS l = D := ⟨_, rfl⟩
  rw [hD] at hv
  have hva := validC_all hv
  obtain ⟨f1, f2⟩ := fewC_len c
  have hel : 2 ≤ (encC D).length ∧ (encC D).length ≤ 30000 := by
    have := encGK_len (k := D.gs.length) hva.2.2.1 (List.all_eq_true.2 fun g hg => List.all_eq_true.1 hva.2.2.2.2.1 g hg) hva.1 hva.2.1
    rw [encGK_all] at this; exact this
  have hEnc := rEncode_spec D hv
  generalize encC D = T at hel hEnc
  obtain ⟨q, hq⟩ : ∃ q, p % T.length = q := ⟨_, rfl⟩
  have hql : q < T.length := by rw [← hq]; exact Nat.mod_lt _ (by omega)
  have hx8 : x.toNat < 256 := x.toNat_lt
  have hset := bytesR_set T q x
  have hbl : ((bytesR T).length : Int) = (T.length : Int) := by rw [bytesR_len]
  have hmod : ((p : Int)).tmod (T.length : Int) = (q : Int) := by rw [← hq, Int.tmod_eq_emod_of_nonneg (by omega)]; omega
  have hd1 := decodes_spec T (by omega)
  have hd2 := decodes_spec (T.set q x) (by rw [List.length_set]; omega)
  have hd3 := decodes_spec (T.take q) (by rw [List.length_take]; omega)
  have hd4 := decodes_spec (T.set q x ++ [x]) (by rw [List.length_append, List.length_set]; simp; omega)
  have hl2 : (bytesR (T.set q x)).length = T.length := by rw [bytesR_len, List.length_set]
  rw [← bytesR_snoc] at hd4
  rw [← bytesR_take] at hd3
  refine spec_of tt_ok Tryz.func3 rfl (by decide) Tryz.ntmps3 (congrArg Array.toList Tryz.results3) (by simp) (by decide) rfl rfl (fun F hF => ?_)
  refine vwp_seq_k fun Na hNa => vreg tt_ok hF rfl ?_; simp only [go_sem, Int.reduceEq, Int.reduceNe, Int.reduceLT, Int.reduceLE, Nat.reduceEqDiff, Nat.reduceAdd, Nat.reduceMul, Nat.reduceLT, Nat.reduceLeDiff, Nat.reduceSub, reduceCtorEq, reduceIte, Int.reduceToNat, beq_self_eq_true, Bool.and_self, bytesV]
  refine hNa _ (VWp.keep [1,2,3,4,5] [5] ?_); simp only [go_sem, Int.reduceEq, Int.reduceNe, Int.reduceLT, Int.reduceLE, Nat.reduceEqDiff, Nat.reduceAdd, Nat.reduceMul, Nat.reduceLT, Nat.reduceLeDiff, Nat.reduceSub, reduceCtorEq, reduceIte, Int.reduceToNat, beq_self_eq_true, Bool.and_self, bytesV]
  refine vmeet (fun _ : Unit => [(1, .sl 5 (l.map opC)), (2, .sl 1 (bytesR (b.take 500))), (3, .int .u16 (p : Int)), (4, .int .u8 (x.toNat : Int)), (5, .ptr 5 0)])
    (fun _ => [(5, .box 25 [.sl 4 (c.es.map entC), .sl 2 (c.gs.map grpC)])]) (fun _ => True) ?_ ?_
  · refine vwp_seq_k fun Nc hNc => vreg tt_ok hF rfl ?_; simp only [go_sem, Int.reduceEq, Int.reduceNe, Int.reduceLT, Int.reduceLE, Nat.reduceEqDiff, Nat.reduceAdd, Nat.reduceMul, Nat.reduceLT, Nat.reduceLeDiff, Nat.reduceSub, reduceCtorEq, reduceIte, Int.reduceToNat, beq_self_eq_true, Bool.and_self, bytesV]
    refine hNc _ (VWp.keep [1,2,3,4,5,16] [5] ?_); simp only [go_sem, Int.reduceEq, Int.reduceNe, Int.reduceLT, Int.reduceLE, Nat.reduceEqDiff, Nat.reduceAdd, Nat.reduceMul, Nat.reduceLT, Nat.reduceLeDiff, Nat.reduceSub, reduceCtorEq, reduceIte, Int.reduceToNat, beq_self_eq_true, Bool.and_self, bytesV]
    refine vif rfl ⟨fun ht => ?_, fun hf => ?_⟩
    · have hlt : 500 < b.length := by have := of_decide_eq_true ht; rw [bytesR_len] at this; omega
      refine vreg tt_ok hF rfl ?_; simp only [go_sem, Int.reduceEq, Int.reduceNe, Int.reduceLT, Int.reduceLE, Nat.reduceEqDiff, Nat.reduceAdd, Nat.reduceMul, Nat.reduceLT, Nat.reduceLeDiff, Nat.reduceSub, reduceCtorEq, reduceIte, Int.reduceToNat, beq_self_eq_true, Bool.and_self, bytesV]
      exact ⟨by rw [bytesR_len]; omega, (), by rw [bytesR_take]⟩
    · have hge : b.length ≤ 500 := by have := of_decide_eq_false hf; rw [bytesR_len] at this; omega
      refine vwp_skip ?_
      simp only [go_sem, Int.reduceEq, Int.reduceNe, Int.reduceLT, Int.reduceLE, Nat.reduceEqDiff, Nat.reduceAdd, Nat.reduceMul, Nat.reduceLT, Nat.reduceLeDiff, Nat.reduceSub, reduceCtorEq, reduceIte, Int.reduceToNat, beq_self_eq_true, Bool.and_self, bytesV]
      exact ⟨(), by rw [List.take_of_length_le (by omega)]⟩
  intro _ _
  have hd0 := decodes_spec (b.take 500) (by rw [List.length_take]; omega)
  generalize b.take 500 = b5 at hd0
  refine vwp_seq_k fun Nd hNd => vreg tt_ok hF rfl ?_; simp only [go_sem, Int.reduceEq, Int.reduceNe, Int.reduceLT, Int.reduceLE, Nat.reduceEqDiff, Nat.reduceAdd, Nat.reduceMul, Nat.reduceLT, Nat.reduceLeDiff, Nat.reduceSub, reduceCtorEq, reduceIte, Int.reduceToNat, beq_self_eq_true, Bool.and_self, bytesV]
  refine .inl ⟨_, Make_spec l hl hn, ?_⟩; try simp only [go_sem, Int.reduceEq, Int.reduceNe, Int.reduceLT, Int.reduceLE, Nat.reduceEqDiff, Nat.reduceAdd, Nat.reduceMul, Nat.reduceLT, Nat.reduceLeDiff, Nat.reduceSub, reduceCtorEq, reduceIte, Int.reduceToNat, beq_self_eq_true, Bool.and_self, bytesV]
  rw [hD]
  refine hNd _ (VWp.keepR [2,3,4,5,11] [5,11] tt_ok hF rfl fun Ne hNe => ?_); simp only [go_sem, Int.reduceEq, Int.reduceNe, Int.reduceLT, Int.reduceLE, Nat.reduceEqDiff, Nat.reduceAdd, Nat.reduceMul, Nat.reduceLT, Nat.reduceLeDiff, Nat.reduceSub, reduceCtorEq, reduceIte, Int.reduceToNat, beq_self_eq_true, Bool.and_self, bytesV]
  refine .inl ⟨_, hEnc, ?_⟩; try simp only [go_sem, Int.reduceEq, Int.reduceNe, Int.reduceLT, Int.reduceLE, Nat.reduceEqDiff, Nat.reduceAdd, Nat.reduceMul, Nat.reduceLT, Nat.reduceLeDiff, Nat.reduceSub, reduceCtorEq, reduceIte, Int.reduceToNat, beq_self_eq_true, Bool.and_self, bytesV]
  refine hNe _ (VWp.keep [2,3,4,5,11,12] [5,11] ?_); simp only [go_sem, Int.reduceEq, Int.reduceNe, Int.reduceLT, Int.reduceLE, Nat.reduceEqDiff, Nat.reduceAdd, Nat.reduceMul, Nat.reduceLT, Nat.reduceLeDiff, Nat.reduceSub, reduceCtorEq, reduceIte, Int.reduceToNat, beq_self_eq_true, Bool.and_self, bytesV]
  refine VWp.bornSet tt_ok hF 7 rfl rfl [3,4,12] [2,3,4,5,11,12] [5,11] 13 23 (ki := .i64) (rows := bytesR T) (idx := q) (val := .int .u8 (x.toNat : Int)) rfl rfl rfl rfl rfl rfl rfl rfl rfl rfl (by decide) (by decide) rfl (by decide) (bytesR_flats T) rfl (by rw [bytesR_len]; exact hql) ?_ ?_
  · simp only [go_sem, Int.reduceEq, Int.reduceNe, Int.reduceLT, Int.reduceLE, Nat.reduceEqDiff, Nat.reduceAdd, Nat.reduceMul, Nat.reduceLT, Nat.reduceLeDiff, Nat.reduceSub, reduceCtorEq, reduceIte, Int.reduceToNat, beq_self_eq_true, Bool.and_self, bytesV]
    exact ⟨by rw [bytesR_len]; omega, by rw [bytesR_len]; omega, by rw [wrap_i64 (by omega) (by omega), hbl, hmod]⟩
  · simp only [hset, go_sem, Int.reduceEq, Int.reduceNe, Int.reduceLT, Int.reduceLE, Nat.reduceEqDiff, Nat.reduceAdd, Nat.reduceMul, Nat.reduceLT, Nat.reduceLeDiff, Nat.reduceSub, reduceCtorEq, reduceIte, Int.reduceToNat, beq_self_eq_true, Bool.and_self, bytesV]
    refine ⟨by rw [hl2, bytesR_len]; exact Nat.le_refl _, ?_⟩
    rw [show (bytesR T).length = (bytesR (T.set q x)).length by rw [hl2, bytesR_len]]
    refine vwp_seq_k fun Nh hNh => vreg tt_ok hF rfl ?_; simp only [go_sem, Int.reduceEq, Int.reduceNe, Int.reduceLT, Int.reduceLE, Nat.reduceEqDiff, Nat.reduceAdd, Nat.reduceMul, Nat.reduceLT, Nat.reduceLeDiff, Nat.reduceSub, reduceCtorEq, reduceIte, Int.reduceToNat, beq_self_eq_true, Bool.and_self, bytesV]
    refine .inl ⟨_, few_spec c c1 c2, ?_⟩; try simp only [go_sem, Int.reduceEq, Int.reduceNe, Int.reduceLT, Int.reduceLE, Nat.reduceEqDiff, Nat.reduceAdd, Nat.reduceMul, Nat.reduceLT, Nat.reduceLeDiff, Nat.reduceSub, reduceCtorEq, reduceIte, Int.reduceToNat, beq_self_eq_true, Bool.and_self, bytesV]
    refine .inl ⟨_, checks_spec (fewC c) f1 f2, ?_⟩; try simp only [go_sem, Int.reduceEq, Int.reduceNe, Int.reduceLT, Int.reduceLE, Nat.reduceEqDiff, Nat.reduceAdd, Nat.reduceMul, Nat.reduceLT, Nat.reduceLeDiff, Nat.reduceSub, reduceCtorEq, reduceIte, Int.reduceToNat, beq_self_eq_true, Bool.and_self, bytesV]
    refine .inl ⟨_, Prog_spec D (by omega) (by omega), ?_⟩; try simp only [go_sem, Int.reduceEq, Int.reduceNe, Int.reduceLT, Int.reduceLE, Nat.reduceEqDiff, Nat.reduceAdd, Nat.reduceMul, Nat.reduceLT, Nat.reduceLeDiff, Nat.reduceSub, reduceCtorEq, reduceIte, Int.reduceToNat, beq_self_eq_true, Bool.and_self, bytesV]
    refine .inl ⟨_, checks_spec D (by omega) (by omega), ?_⟩; try simp only [go_sem, Int.reduceEq, Int.reduceNe, Int.reduceLT, Int.reduceLE, Nat.reduceEqDiff, Nat.reduceAdd, Nat.reduceMul, Nat.reduceLT, Nat.reduceLeDiff, Nat.reduceSub, reduceCtorEq, reduceIte, Int.reduceToNat, beq_self_eq_true, Bool.and_self, bytesV]
    refine .inl ⟨_, hd0, ?_⟩; try simp only [go_sem, Int.reduceEq, Int.reduceNe, Int.reduceLT, Int.reduceLE, Nat.reduceEqDiff, Nat.reduceAdd, Nat.reduceMul, Nat.reduceLT, Nat.reduceLeDiff, Nat.reduceSub, reduceCtorEq, reduceIte, Int.reduceToNat, beq_self_eq_true, Bool.and_self, bytesV]
    refine .inl ⟨_, hd1, ?_⟩; try simp only [go_sem, Int.reduceEq, Int.reduceNe, Int.reduceLT, Int.reduceLE, Nat.reduceEqDiff, Nat.reduceAdd, Nat.reduceMul, Nat.reduceLT, Nat.reduceLeDiff, Nat.reduceSub, reduceCtorEq, reduceIte, Int.reduceToNat, beq_self_eq_true, Bool.and_self, bytesV]
    refine .inl ⟨_, hd2, ?_⟩; try simp only [go_sem, Int.reduceEq, Int.reduceNe, Int.reduceLT, Int.reduceLE, Nat.reduceEqDiff, Nat.reduceAdd, Nat.reduceMul, Nat.reduceLT, Nat.reduceLeDiff, Nat.reduceSub, reduceCtorEq, reduceIte, Int.reduceToNat, beq_self_eq_true, Bool.and_self, bytesV]
    rw [show (IntKind.i64.wrap (p : Int)).tmod ((bytesR T).length : Int) = (q : Int) by rw [wrap_i64 (by omega) (by omega), hbl, hmod]]
    refine ⟨by rw [bytesR_len]; omega, ⟨by omega, by rw [bytesR_len]; omega⟩, ?_⟩
    simp only [Int.toNat_natCast]
    refine .inl ⟨_, hd3, ?_⟩; try simp only [go_sem, Int.reduceEq, Int.reduceNe, Int.reduceLT, Int.reduceLE, Nat.reduceEqDiff, Nat.reduceAdd, Nat.reduceMul, Nat.reduceLT, Nat.reduceLeDiff, Nat.reduceSub, reduceCtorEq, reduceIte, Int.reduceToNat, beq_self_eq_true, Bool.and_self, bytesV]
    refine ⟨by rw [hl2]; omega, ?_⟩
    refine .inl ⟨_, hd4, ?_⟩; try simp only [go_sem, Int.reduceEq, Int.reduceNe, Int.reduceLT, Int.reduceLE, Nat.reduceEqDiff, Nat.reduceAdd, Nat.reduceMul, Nat.reduceLT, Nat.reduceLeDiff, Nat.reduceSub, reduceCtorEq, reduceIte, Int.reduceToNat, beq_self_eq_true, Bool.and_self, bytesV]
    refine .inl ⟨_, works_spec, ?_⟩; try simp only [go_sem, Int.reduceEq, Int.reduceNe, Int.reduceLT, Int.reduceLE, Nat.reduceEqDiff, Nat.reduceAdd, Nat.reduceMul, Nat.reduceLT, Nat.reduceLeDiff, Nat.reduceSub, reduceCtorEq, reduceIte, Int.reduceToNat, beq_self_eq_true, Bool.and_self, bytesV]
    refine hNh _ (VWp.keep [10] [] ?_); simp only [go_sem, Int.reduceEq, Int.reduceNe, Int.reduceLT, Int.reduceLE, Nat.reduceEqDiff, Nat.reduceAdd, Nat.reduceMul, Nat.reduceLT, Nat.reduceLeDiff, Nat.reduceSub, reduceCtorEq, reduceIte, Int.reduceToNat, beq_self_eq_true, Bool.and_self, bytesV]
    refine vwp_ret ?_
    simp only [go_sem, Int.reduceEq, Int.reduceNe, Int.reduceLT, Int.reduceLE, Nat.reduceEqDiff, Nat.reduceAdd, Nat.reduceMul, Nat.reduceLT, Nat.reduceLeDiff, Nat.reduceSub, reduceCtorEq, reduceIte, Int.reduceToNat, beq_self_eq_true, Bool.and_self, bytesV]
    exact LeV.refl _
theorem w16 {n : Int} (h : (Lit.int .u16 n).wf = true) : 0 ≤ n ∧ n < 65536 := by
  simp [Lit.wf, IntKind.min, IntKind.max, IntKind.signed, IntKind.bits] at h
  omega
theorem w8 {n : Int} (h : (Lit.int .u8 n).wf = true) : 0 ≤ n ∧ n < 256 := by
  simp [Lit.wf, IntKind.min, IntKind.max, IntKind.signed, IntKind.bits] at h
  omega
theorem CatalogCodes_in (w : World) (ve vg : Value) (c : Cat) (c1 : c.es.length ≤ 9223372036854775807) (c2 : c.gs.length ≤ 9223372036854775807) (rc : Rep (S0 (fun _ _ => False) w) (catV c) (.agg #[ve, vg])) (v : Value) (l : List OpS) (hl : ∀ o ∈ l, OpOk o)
    (hn : l.length ≤ 9223372036854775807) (hv : Rep (S0 (fun _ _ => False) w) (.sl 5 (l.map opC)) v) (u : Value) (b : List UInt8) (hb : b.length ≤ 9223372036854775807) (hu : Rep (S0 (fun _ _ => False) w) (.sl 1 (bytesR b)) u) (p x : Int) (wp : (Lit.int .u16 p).wf = true) (wx : (Lit.int .u8 x).wf = true) :
    Calls Tryz.prog 3 #[.agg #[ve, vg], v, u, .int .u16 p, .int .u8 x] w fun e w' => e = .returned (.bool true) ∧ Chg [] w w' := by
  obtain ⟨p1, p2⟩ := w16 wp
  obtain ⟨x1, x2⟩ := w8 wx
  obtain ⟨p, rfl⟩ := Int.eq_ofNat_of_zero_le p1
  obtain ⟨x, rfl⟩ := Int.eq_ofNat_of_zero_le x1
  have hx : ((UInt8.ofNat x).toNat : Int) = (x : Int) := by rw [UInt8.toNat_ofNat']; omega
  have hs := CatalogCodes_spec c c1 c2 l hl hn b hb p (by omega) (UInt8.ofNat x)
  rw [hx] at hs
  exact spec_true hs (vs := [.agg #[ve, vg], v, u, .int .u16 (p : Int), .int .u8 (x : Int)]) w ⟨_, _, rfl, rc, _, _, rfl, hv, _, _, rfl, hu, _, _, rfl, rfl, _, _, rfl, rfl, rfl⟩
end Go.Proofs.YtldkmclfhjcicaaGreatDoor
