import Derived.Test.YtnaljgmcpagbbaaGreatDoorSpecA

/- Layer 34 in plain Lean: names, values, statements; no program in sight. -/
namespace Go.Proofs.YtnaljgmcpagbbaaGreatDoor
set_option linter.unusedVariables false
abbrev Jb := List UInt8
def alphaJ (c : UInt8) : Bool := (decide (65 ≤ c) && decide (c ≤ 90)) || c == 64 || c == 35 || c == 36
def digJ (c : UInt8) : Bool := decide (48 ≤ c) && decide (c ≤ 57)
def nmJ (s : Jb) : Bool := decide (1 ≤ s.length) && decide (s.length ≤ 8) && alphaJ (s.headD 0) && s.all (fun c => alphaJ c || digJ c)
def wordsJ (c : UInt8) : Jb → List Jb
  | [] => [[]]
  | x :: t => if x == c then [] :: wordsJ c t else match wordsJ c t with
    | [] => [[x]]
    | w :: ws => (x :: w) :: ws
def keyJ (s : Jb) : Bool := (wordsJ 46 s).all nmJ
def dsnJ (s : Jb) : Bool := decide (s.length ≤ 44) && keyJ s
def labelJ (s : Jb) : Bool := s.isEmpty || (keyJ s && decide ((wordsJ 46 s).length ≤ 2))
def textJ (s : Jb) : Bool := s.all fun c => decide (32 ≤ c) && decide (c ≤ 126)
def cardJ (s : Jb) : Bool := decide (s.length ≤ 80) && textJ s
def dnJ (c : UInt8) (d : Int) : Int := if c == 41 then d - 1 else d
def upJ (c : UInt8) (d : Int) : Int := if c == 40 then d + 1 else d
def walkJ : Jb → Nat → Int → Bool → List (Nat × UInt8 × Int) × Bool
  | [], _, d, q => ([], d == 0 && !q)
  | c :: t, i, d, q =>
    if c == 39 then walkJ t (i + 1) d (!q)
    else if q then walkJ t (i + 1) d q
    else if dnJ c d < 0 then ([], false)
    else ((i, c, dnJ c d) :: (walkJ t (i + 1) (upJ c (dnJ c d)) q).1, (walkJ t (i + 1) (upJ c (dnJ c d)) q).2)
def visJ (s : Jb) : List (Nat × UInt8 × Int) := (walkJ s 0 0 false).1
def balJ (s : Jb) : Bool := (walkJ s 0 0 false).2
def valueJ (s : Jb) : Bool := textJ s && (visJ s).all (fun v => !(v.2.1 == 32 || (v.2.1 == 44 && v.2.2 == 0))) && balJ s
def commaJ (s : Jb) : List Nat := ((visJ s).filter fun v => v.2.1 == 44 && v.2.2 == 0).map (·.1)
def cutJ (s : Jb) : Nat → List Nat → List Jb
  | a, [] => [s.drop a]
  | a, i :: is => (s.take i).drop a :: cutJ s (i + 1) is
def splitJ (s : Jb) : Option (List Jb) := if balJ s then some (cutJ s 0 (commaJ s)) else none
def partsJ (s : Jb) : Option (List Jb) :=
  if decide (2 ≤ s.length) && s.headD 0 == 40 && s.getLastD 0 == 41 && valueJ s then splitJ ((s.take (s.length - 1)).drop 1) else none
def unqJ : Jb → Jb
  | 39 :: 39 :: t => 39 :: unqJ t
  | c :: t => c :: unqJ t
  | [] => []
def txtJ (s : Jb) : Option Jb :=
  if !(balJ s && valueJ s && (visJ s).all (fun v => !(v.2.1 == 40 || v.2.1 == 41))) then none
  else if (visJ s).length = s.length then some s
  else if 0 < (visJ s).length then none
  else some (unqJ ((s.take (s.length - 1)).drop 1))
structure PrmJ where
  key : Jb
  value : Jb
  parts : List Jb
  deriving Inhabited
structure StmJ where
  line : Int
  name : Jb
  op : Jb
  params : List PrmJ
  data : List Jb
  deriving Inhabited
def eqJ (s : Jb) : Option Nat := ((visJ s).find? fun v => v.2.1 == 61 && v.2.2 == 0).map (·.1)
def parseJ (s : Jb) : Option PrmJ :=
  let k := match eqJ s with | some i => s.take i | none => []
  let v := match eqJ s with | some i => s.drop (i + 1) | none => s
  if (match eqJ s with | some _ => keyJ k | none => true) && valueJ v then some ⟨k, v, (partsJ v).getD []⟩ else none
def opJ (s : Jb) : Bool := s == [74, 79, 66] || s == [69, 88, 69, 67] || s == [68, 68] || s == [80, 82, 79, 67] || s == [80, 69, 78, 68]
def kindJ (s : StmJ) : Nat := match s.params with
  | p :: _ => if s.op == [68, 68] && p.key.isEmpty then (if p.value == [42] then 1 else if p.value == [68, 65, 84, 65] then 2 else 0) else 0
  | [] => 0
def begJ (s w : Jb) : Bool := s.take w.length == w && decide (w.length ≤ s.length)
def blankJ (s : Jb) : Jb := s.dropWhile (· == 32)
def skipJ (l : Jb) : Bool := begJ l [47, 47, 42] || begJ l [47, 42] || (begJ l [47, 47] && (l.drop 2).all (· == 32))
def cut1J (s : Jb) : Jb × Jb := (s.takeWhile (· != 32), blankJ (s.dropWhile (· != 32)))
def operJ : Jb → Bool → Jb × Bool
  | [], q => ([], !q)
  | c :: t, q => if c == 39 then (c :: (operJ t (!q)).1, (operJ t (!q)).2)
    else if c == 32 && !q then ([], true)
    else (c :: (operJ t q).1, (operJ t q).2)
end Go.Proofs.YtnaljgmcpagbbaaGreatDoor

/- Layer 34 in plain Lean: decks read and written; no program in sight. -/
namespace Go.Proofs.YtnaljgmcpagbbaaGreatDoor
set_option linter.unusedVariables false
def contJ (n : Nat) : List Jb → Nat → Nat ⊕ (Jb × List Jb × Nat)
  | [], _ => .inl n
  | l :: t, i =>
    if begJ l [47, 47, 42] && cardJ l then contJ n t (i + 1)
    else if !(cardJ l && begJ l [47, 47, 32]) then .inl (i + 1)
    else if !(operJ (blankJ (l.drop 2)) false).2 || (operJ (blankJ (l.drop 2)) false).1.isEmpty then .inl (i + 1)
    else .inr ((operJ (blankJ (l.drop 2)) false).1, t, i + 1)
def fieldJ (n : Nat) : Nat → Jb → List Jb → Nat → Nat ⊕ (Jb × List Jb × Nat)
  | 0, f, t, i => .inr (f, t, i)
  | k + 1, f, t, i => if f.getLastD 0 == 44 then match contJ n t i with
      | .inl b => .inl b
      | .inr (g, t2, i2) => fieldJ n k (f ++ g) t2 i2
    else .inr (f, t, i)
def parsesJ : List Jb → Option (List PrmJ)
  | [] => some []
  | s :: t => match parseJ s, parsesJ t with
    | some p, some ps => some (p :: ps)
    | _, _ => none
def stmtJ (n : Nat) (l : Jb) (t : List Jb) (i : Nat) : Nat ⊕ (StmJ × List Jb × Nat) :=
  let name := (cut1J (l.drop 2)).1
  let op := (cut1J (cut1J (l.drop 2)).2).1
  let f := operJ (cut1J (cut1J (l.drop 2)).2).2 false
  if !f.2 || !labelJ name || !opJ op then .inl (i + 1)
  else match fieldJ n (t.length + 1) f.1 t (i + 1) with
    | .inl b => .inl b
    | .inr (g, t2, i2) => if g.isEmpty then .inr (⟨(i : Int) + 1, name, op, [], []⟩, t2, i2)
      else match splitJ g with
        | none => .inl (i + 1)
        | some ws => match parsesJ ws with
          | none => .inl (i + 1)
          | some ps => .inr (⟨(i : Int) + 1, name, op, ps, []⟩, t2, i2)
def dataJ (k : Nat) : List Jb → Nat → Nat ⊕ (List Jb × List Jb × Nat)
  | [], i => .inr ([], [], i)
  | l :: t, i => if k == 0 then .inr ([], l :: t, i)
    else if k == 1 && begJ l [47, 47] then .inr ([], l :: t, i)
    else if !cardJ l then .inl (i + 1)
    else if begJ l [47, 42] then .inr ([], t, i + 1)
    else match dataJ k t (i + 1) with
      | .inl b => .inl b
      | .inr (d, t2, i2) => .inr (l :: d, t2, i2)
def deckJ (n : Nat) : Nat → List Jb → Nat → Nat ⊕ List StmJ
  | _, [], _ => .inr []
  | 0, _ :: _, _ => .inl 0
  | k + 1, l :: t, i =>
    if !cardJ l then .inl (i + 1)
    else if skipJ l then deckJ n k t (i + 1)
    else if !begJ l [47, 47] then .inl (i + 1)
    else match stmtJ n l t i with
      | .inl b => .inl b
      | .inr (s, t2, i2) => match dataJ (kindJ s) t2 i2 with
        | .inl b => .inl b
        | .inr (d, t3, i3) => match deckJ n k t3 i3 with
          | .inl b => .inl b
          | .inr ss => .inr ({ s with data := d } :: ss)
def sizeJ (L : List Jb) : Nat := (L.map List.length).sum
def scanJ (L : List Jb) : List StmJ × Int × Int :=
  if 65536 < sizeJ L then ([], 0, 2) else match deckJ L.length L.length L 0 with
    | .inl b => ([], b, 340)
    | .inr ss => (ss, 0, 0)
def wordJ (p : PrmJ) : Option Jb :=
  let s := if p.key.isEmpty then p.value else p.key ++ 61 :: p.value
  match parseJ s with
  | some q => if q.key = p.key ∧ q.value = p.value ∧ q.parts = p.parts then some s else none
  | none => none
def rowsJ : Nat → Jb → List PrmJ → Option (List Jb)
  | _, line, [] => some [line]
  | i, line, p :: ps => match wordJ p with
    | none => none
    | some t =>
      let t' := if ps.isEmpty then t else t ++ [44]
      if ps.isEmpty && t.isEmpty then none
      else if i == 0 then rowsJ (i + 1) (line ++ 32 :: t') ps
      else if line.length + t'.length ≤ 80 then rowsJ (i + 1) (line ++ t') ps
      else match rowsJ (i + 1) ([47, 47, 32] ++ t') ps with
        | some r => some (line :: r)
        | none => none
def rendJ (s : StmJ) : Option (List Jb) :=
  if !labelJ s.name || !opJ s.op then none
  else match rowsJ 0 ([47, 47] ++ s.name ++ 32 :: s.op) s.params with
    | some r => if r.all (fun t => decide (t.length ≤ 80)) then some r else none
    | none => none
def fitsJ (s : StmJ) : Bool := s.data.all fun t => !(kindJ s == 0 || !cardJ t || begJ t [47, 42] || (kindJ s == 1 && begJ t [47, 47]))
def printJ : List StmJ → Option (List Jb)
  | [] => some []
  | s :: ss => match rendJ s with
    | none => none
    | some r => if !fitsJ s then none else match printJ ss with
      | none => none
      | some o => some (r ++ s.data ++ (if kindJ s == 0 then [] else [[47, 42]]) ++ o)
def getJ (s : StmJ) (k : Jb) : Option PrmJ := s.params.find? fun p => p.key == k
end Go.Proofs.YtnaljgmcpagbbaaGreatDoor

/- Layer 34 in plain Lean: the lines of errors; no program in sight. -/
namespace Go.Proofs.YtnaljgmcpagbbaaGreatDoor
set_option linter.unusedVariables false
set_option linter.unusedSimpArgs false
theorem contJ_len {n : Nat} : ∀ (t : List Jb) (i : Nat) {g : Jb} {t2 : List Jb} {i2 : Nat}, contJ n t i = .inr (g, t2, i2) → t2.length < t.length ∧ i2 + t2.length = i + t.length ∧ g ≠ []
  | [], i, g, t2, i2, h => by cases h
  | l :: t, i, g, t2, i2, h => by
    unfold contJ at h
    split at h
    · have := contJ_len t (i + 1) h
      simp only [List.length_cons]; exact ⟨by omega, by omega, this.2.2⟩
    · split at h
      · cases h
      · split at h
        · cases h
        · rename_i h3
          simp only [Sum.inr.injEq, Prod.mk.injEq] at h
          obtain ⟨rfl, rfl, rfl⟩ := h
          simp only [List.length_cons]
          refine ⟨by omega, by omega, fun e => h3 ?_⟩
          rw [e]; simp
theorem contJ_pos {n : Nat} (hn : 0 < n) : ∀ (t : List Jb) (i : Nat) {b : Nat}, contJ n t i = .inl b → 0 < b
  | [], i, b, h => by cases h; exact hn
  | l :: t, i, b, h => by
    unfold contJ at h
    split at h
    · exact contJ_pos hn t (i + 1) h
    · split at h
      · injection h with h; omega
      · split at h
        · injection h with h; omega
        · cases h
theorem fieldJ_len {n : Nat} : ∀ (k : Nat) (f : Jb) (t : List Jb) (i : Nat) {g : Jb} {t2 : List Jb} {i2 : Nat}, fieldJ n k f t i = .inr (g, t2, i2) → t2.length ≤ t.length ∧ i2 + t2.length = i + t.length
  | 0, f, t, i, g, t2, i2, h => by
    simp only [fieldJ, Sum.inr.injEq, Prod.mk.injEq] at h
    obtain ⟨rfl, rfl, rfl⟩ := h; exact ⟨Nat.le_refl _, rfl⟩
  | k + 1, f, t, i, g, t2, i2, h => by
    unfold fieldJ at h
    split at h
    · split at h
      · cases h
      · rename_i f2 t3 i3 hc
        have h1 := contJ_len _ _ hc
        have h2 := fieldJ_len k _ _ _ h
        omega
    · simp only [Sum.inr.injEq, Prod.mk.injEq] at h
      obtain ⟨rfl, rfl, rfl⟩ := h; exact ⟨Nat.le_refl _, rfl⟩
theorem fieldJ_pos {n : Nat} (hn : 0 < n) : ∀ (k : Nat) (f : Jb) (t : List Jb) (i : Nat) {b : Nat}, fieldJ n k f t i = .inl b → 0 < b
  | 0, f, t, i, b, h => by cases h
  | k + 1, f, t, i, b, h => by
    unfold fieldJ at h
    split at h
    · split at h
      · rename_i b' hc
        injection h with h; subst h
        exact contJ_pos hn _ _ hc
      · exact fieldJ_pos hn k _ _ _ h
    · cases h
theorem stmtJ_len {n : Nat} {l : Jb} {t : List Jb} {i : Nat} {s : StmJ} {t2 : List Jb} {i2 : Nat} (h : stmtJ n l t i = .inr (s, t2, i2)) : t2.length ≤ t.length ∧ i2 + t2.length = i + 1 + t.length ∧ s.line = (i : Int) + 1 ∧ s.data = [] := by
  unfold stmtJ at h
  simp only at h
  split at h
  · cases h
  · split at h
    · cases h
    · rename_i g t3 i3 hf
      have h1 := fieldJ_len _ _ _ _ hf
      split at h
      · simp only [Sum.inr.injEq, Prod.mk.injEq] at h
        obtain ⟨rfl, rfl, rfl⟩ := h
        exact ⟨h1.1, h1.2, rfl, rfl⟩
      · split at h
        · cases h
        · split at h
          · cases h
          · simp only [Sum.inr.injEq, Prod.mk.injEq] at h
            obtain ⟨rfl, rfl, rfl⟩ := h
            exact ⟨h1.1, h1.2, rfl, rfl⟩
theorem stmtJ_pos {n : Nat} (hn : 0 < n) {l : Jb} {t : List Jb} {i b : Nat} (h : stmtJ n l t i = .inl b) : 0 < b := by
  unfold stmtJ at h
  simp only at h
  split at h
  · injection h with h; omega
  · split at h
    · rename_i b' hf
      injection h with h; subst h
      exact fieldJ_pos hn _ _ _ _ hf
    · split at h
      · cases h
      · split at h
        · injection h with h; omega
        · split at h
          · injection h with h; omega
          · cases h
theorem dataJ_len {k : Nat} : ∀ (t : List Jb) (i : Nat) {d t2 : List Jb} {i2 : Nat}, dataJ k t i = .inr (d, t2, i2) → t2.length ≤ t.length ∧ i2 + t2.length = i + t.length
  | [], i, d, t2, i2, h => by
    simp only [dataJ, Sum.inr.injEq, Prod.mk.injEq] at h
    obtain ⟨rfl, rfl, rfl⟩ := h; exact ⟨Nat.le_refl _, rfl⟩
  | l :: t, i, d, t2, i2, h => by
    unfold dataJ at h
    split at h
    · simp only [Sum.inr.injEq, Prod.mk.injEq] at h
      obtain ⟨rfl, rfl, rfl⟩ := h; exact ⟨Nat.le_refl _, rfl⟩
    · split at h
      · simp only [Sum.inr.injEq, Prod.mk.injEq] at h
        obtain ⟨rfl, rfl, rfl⟩ := h; exact ⟨Nat.le_refl _, rfl⟩
      · split at h
        · cases h
        · split at h
          · simp only [Sum.inr.injEq, Prod.mk.injEq] at h
            obtain ⟨rfl, rfl, rfl⟩ := h
            simp only [List.length_cons]; omega
          · split at h
            · cases h
            · rename_i d' t3 i3 hc
              simp only [Sum.inr.injEq, Prod.mk.injEq] at h
              obtain ⟨rfl, rfl, rfl⟩ := h
              have := dataJ_len t (i + 1) hc
              simp only [List.length_cons]; omega
theorem dataJ_pos {k : Nat} : ∀ (t : List Jb) (i : Nat) {b : Nat}, dataJ k t i = .inl b → 0 < b
  | [], i, b, h => by cases h
  | l :: t, i, b, h => by
    unfold dataJ at h
    split at h
    · cases h
    · split at h
      · cases h
      · split at h
        · injection h with h; omega
        · split at h
          · cases h
          · split at h
            · rename_i b' hc
              injection h with h; subst h
              exact dataJ_pos t (i + 1) hc
            · cases h
theorem scanJ_long {L : List Jb} (h : 65536 < sizeJ L) : scanJ L = ([], 0, 2) := by unfold scanJ; rw [if_pos h]
end Go.Proofs.YtnaljgmcpagbbaaGreatDoor

/- Layer 34 in plain Lean: decks in pieces; no program in sight. -/
namespace Go.Proofs.YtnaljgmcpagbbaaGreatDoor
set_option linter.unusedVariables false
set_option linter.unusedSimpArgs false
theorem sizeJ_app (a b : List Jb) : sizeJ (a ++ b) = sizeJ a + sizeJ b := by unfold sizeJ; rw [List.map_append, List.sum_append]
end Go.Proofs.YtnaljgmcpagbbaaGreatDoor

/- Layer 34 in plain Lean: a comment ahead of a statement; no program in sight. -/
namespace Go.Proofs.YtnaljgmcpagbbaaGreatDoor
set_option linter.unusedVariables false
set_option linter.unusedSimpArgs false
theorem contJ_pre {n : Nat} : ∀ (a : List Jb) (i : Nat) {g : Jb} {t2 : List Jb} {i2 : Nat}, contJ n a i = .inr (g, t2, i2) → ∃ pre, a = pre ++ t2 ∧ ∀ (n' : Nat) (X : List Jb), contJ n' (pre ++ X) i = .inr (g, X, i2)
  | [], i, g, t2, i2, h => by cases h
  | l :: t, i, g, t2, i2, h => by
    unfold contJ at h
    split at h
    · rename_i c
      obtain ⟨pre, h1, h2⟩ := contJ_pre t (i + 1) h
      exact ⟨l :: pre, by rw [h1]; rfl, fun n' X => by rw [List.cons_append]; unfold contJ; rw [if_pos c]; exact h2 n' X⟩
    · rename_i c
      split at h
      · cases h
      · rename_i c2
        split at h
        · cases h
        · rename_i c3
          simp only [Sum.inr.injEq, Prod.mk.injEq] at h
          obtain ⟨rfl, rfl, rfl⟩ := h
          exact ⟨[l], rfl, fun n' X => by show contJ n' (l :: X) i = _; unfold contJ; rw [if_neg c, if_neg c2, if_neg c3]⟩
theorem fieldJ_pre {n : Nat} : ∀ (k : Nat) (f : Jb) (a : List Jb) (i : Nat) {g : Jb} {t2 : List Jb} {i2 : Nat}, a.length < k → fieldJ n k f a i = .inr (g, t2, i2) →
    ∃ pre, a = pre ++ t2 ∧ ∀ (n' k' : Nat) (X : List Jb), pre.length < k' → fieldJ n' k' f (pre ++ X) i = .inr (g, X, i2)
  | 0, f, a, i, g, t2, i2, h, _ => by omega
  | k + 1, f, a, i, g, t2, i2, hk, h => by
    unfold fieldJ at h
    split at h
    · rename_i c
      split at h
      · cases h
      · rename_i f2 t3 i3 hc
        have hl := contJ_len _ _ hc
        obtain ⟨p1, h1, h2⟩ := contJ_pre _ _ hc
        obtain ⟨p2, h3, h4⟩ := fieldJ_pre k _ t3 i3 (by omega) h
        refine ⟨p1 ++ p2, by rw [h1, h3, List.append_assoc], fun n' k' X hk' => ?_⟩
        have hp1 : 0 < p1.length := by
          have := congrArg List.length h1
          rw [List.length_append] at this; omega
        rw [List.length_append] at hk'
        obtain ⟨k', rfl⟩ : ∃ m, k' = m + 1 := ⟨k' - 1, by omega⟩
        rw [List.append_assoc]
        unfold fieldJ
        rw [if_pos c, h2 n' (p2 ++ X)]
        exact h4 n' k' X (by omega)
    · rename_i c
      simp only [Sum.inr.injEq, Prod.mk.injEq] at h
      obtain ⟨rfl, rfl, rfl⟩ := h
      refine ⟨[], rfl, fun n' k' X hk' => ?_⟩
      cases k' with
      | zero => rfl
      | succ k' => rw [List.nil_append]; unfold fieldJ; rw [if_neg c]
theorem stmtJ_pre {n : Nat} {l : Jb} {a : List Jb} {i : Nat} {s : StmJ} {t2 : List Jb} {i2 : Nat} (h : stmtJ n l a i = .inr (s, t2, i2)) : ∃ pre, a = pre ++ t2 ∧ ∀ (n' : Nat) (X : List Jb), stmtJ n' l (pre ++ X) i = .inr (s, X, i2) := by
  unfold stmtJ at h
  simp only at h
  split at h
  · cases h
  · rename_i c
    split at h
    · cases h
    · rename_i g t3 i3 hf
      obtain ⟨pre, h1, h2⟩ := fieldJ_pre _ _ a _ (by omega) hf
      have fin : t3 = t2 → i3 = i2 → ∀ (n' : Nat) (X : List Jb), (if g.isEmpty then (.inr (⟨(i : Int) + 1, (cut1J (l.drop 2)).1, (cut1J (cut1J (l.drop 2)).2).1, [], []⟩, X, i3) : Nat ⊕ (StmJ × List Jb × Nat))
          else match splitJ g with
            | none => .inl (i + 1)
            | some ws => match parsesJ ws with
              | none => .inl (i + 1)
              | some ps => .inr (⟨(i : Int) + 1, (cut1J (l.drop 2)).1, (cut1J (cut1J (l.drop 2)).2).1, ps, []⟩, X, i3)) = .inr (s, X, i2) → stmtJ n' l (pre ++ X) i = .inr (s, X, i2) := fun e1 e2 n' X hx => by
        unfold stmtJ
        simp only
        rw [if_neg c, h2 n' _ X (by rw [List.length_append]; omega)]
        exact hx
      split at h
      · rename_i c2
        simp only [Sum.inr.injEq, Prod.mk.injEq] at h
        obtain ⟨rfl, rfl, rfl⟩ := h
        exact ⟨pre, h1, fun n' X => fin rfl rfl n' X (by rw [if_pos c2])⟩
      · rename_i c2
        split at h
        · cases h
        · rename_i ws hw
          split at h
          · cases h
          · rename_i ps hp
            simp only [Sum.inr.injEq, Prod.mk.injEq] at h
            obtain ⟨rfl, rfl, rfl⟩ := h
            exact ⟨pre, h1, fun n' X => fin rfl rfl n' X (by rw [if_neg c2, hw]; simp only [hp])⟩
end Go.Proofs.YtnaljgmcpagbbaaGreatDoor
