import Derived.Test.YtnaljgmcpagbbaaDoorSpecA

/- Layer 34 in plain Lean: names, values, statements; no program in sight. -/
namespace Go.Proofs.YtnaljgmcpagbbaaDoor
set_option linter.unusedVariables false
abbrev Jb := List UInt8
def alphaJ (c : UInt8) : Bool := (decide (65 ≤ c) && decide (c ≤ 90)) || c == 64 || c == 35 || c == 36
def digJ (c : UInt8) : Bool := decide (48 ≤ c) && decide (c ≤ 57)
def nmJ (s : Jb) : Bool := decide (1 ≤ s.length) && decide (s.length ≤ 8) && alphaJ (s.headD 0) && s.all (fun c => alphaJ c || digJ c)
def wordsJ (c : UInt8) : Jb → List Jb
  | [] => [[]]
  | x :: t => if x == c then [] :: wordsJ c t else match wordsJ c t with
    | [] => [[x]]
    | w :: ws => (x :: w) :: ws
def keyJ (s : Jb) : Bool := (wordsJ 46 s).all nmJ
def dsnJ (s : Jb) : Bool := decide (s.length ≤ 44) && keyJ s
def labelJ (s : Jb) : Bool := s.isEmpty || (keyJ s && decide ((wordsJ 46 s).length ≤ 2))
def textJ (s : Jb) : Bool := s.all fun c => decide (32 ≤ c) && decide (c ≤ 126)
def cardJ (s : Jb) : Bool := decide (s.length ≤ 80) && textJ s
def dnJ (c : UInt8) (d : Int) : Int := if c == 41 then d - 1 else d
def upJ (c : UInt8) (d : Int) : Int := if c == 40 then d + 1 else d
def walkJ : Jb → Nat → Int → Bool → List (Nat × UInt8 × Int) × Bool
  | [], _, d, q => ([], d == 0 && !q)
  | c :: t, i, d, q =>
    if c == 39 then walkJ t (i + 1) d (!q)
    else if q then walkJ t (i + 1) d q
    else if dnJ c d < 0 then ([], false)
    else ((i, c, dnJ c d) :: (walkJ t (i + 1) (upJ c (dnJ c d)) q).1, (walkJ t (i + 1) (upJ c (dnJ c d)) q).2)
def visJ (s : Jb) : List (Nat × UInt8 × Int) := (walkJ s 0 0 false).1
def balJ (s : Jb) : Bool := (walkJ s 0 0 false).2
def valueJ (s : Jb) : Bool := textJ s && (visJ s).all (fun v => !(v.2.1 == 32 || (v.2.1 == 44 && v.2.2 == 0))) && balJ s
def commaJ (s : Jb) : List Nat := ((visJ s).filter fun v => v.2.1 == 44 && v.2.2 == 0).map (·.1)
def cutJ (s : Jb) : Nat → List Nat → List Jb
  | a, [] => [s.drop a]
  | a, i :: is => (s.take i).drop a :: cutJ s (i + 1) is
def splitJ (s : Jb) : Option (List Jb) := if balJ s then some (cutJ s 0 (commaJ s)) else none
def partsJ (s : Jb) : Option (List Jb) :=
  if decide (2 ≤ s.length) && s.headD 0 == 40 && s.getLastD 0 == 41 && valueJ s then splitJ ((s.take (s.length - 1)).drop 1) else none
def unqJ : Jb → Jb
  | 39 :: 39 :: t => 39 :: unqJ t
  | c :: t => c :: unqJ t
  | [] => []
def txtJ (s : Jb) : Option Jb :=
  if !(balJ s && valueJ s && (visJ s).all (fun v => !(v.2.1 == 40 || v.2.1 == 41))) then none
  else if (visJ s).length = s.length then some s
  else if 0 < (visJ s).length then none
  else some (unqJ ((s.take (s.length - 1)).drop 1))
structure PrmJ where
  key : Jb
  value : Jb
  parts : List Jb
  deriving Inhabited
structure StmJ where
  line : Int
  name : Jb
  op : Jb
  params : List PrmJ
  data : List Jb
  deriving Inhabited
def eqJ (s : Jb) : Option Nat := ((visJ s).find? fun v => v.2.1 == 61 && v.2.2 == 0).map (·.1)
def parseJ (s : Jb) : Option PrmJ :=
  let k := match eqJ s with | some i => s.take i | none => []
  let v := match eqJ s with | some i => s.drop (i + 1) | none => s
  if (match eqJ s with | some _ => keyJ k | none => true) && valueJ v then some ⟨k, v, (partsJ v).getD []⟩ else none
def opJ (s : Jb) : Bool := s == [74, 79, 66] || s == [69, 88, 69, 67] || s == [68, 68] || s == [80, 82, 79, 67] || s == [80, 69, 78, 68]
def kindJ (s : StmJ) : Nat := match s.params with
  | p :: _ => if s.op == [68, 68] && p.key.isEmpty then (if p.value == [42] then 1 else if p.value == [68, 65, 84, 65] then 2 else 0) else 0
  | [] => 0
def begJ (s w : Jb) : Bool := s.take w.length == w && decide (w.length ≤ s.length)
def blankJ (s : Jb) : Jb := s.dropWhile (· == 32)
def skipJ (l : Jb) : Bool := begJ l [47, 47, 42] || begJ l [47, 42] || (begJ l [47, 47] && (l.drop 2).all (· == 32))
def cut1J (s : Jb) : Jb × Jb := (s.takeWhile (· != 32), blankJ (s.dropWhile (· != 32)))
def operJ : Jb → Bool → Jb × Bool
  | [], q => ([], !q)
  | c :: t, q => if c == 39 then (c :: (operJ t (!q)).1, (operJ t (!q)).2)
    else if c == 32 && !q then ([], true)
    else (c :: (operJ t q).1, (operJ t q).2)
end Go.Proofs.YtnaljgmcpagbbaaDoor

/- Layer 34 in plain Lean: decks read and written; no program in sight. -/
namespace Go.Proofs.YtnaljgmcpagbbaaDoor
set_option linter.unusedVariables false
def contJ (n : Nat) : List Jb → Nat → Nat ⊕ (Jb × List Jb × Nat)
  | [], _ => .inl n
  | l :: t, i =>
    if begJ l [47, 47, 42] && cardJ l then contJ n t (i + 1)
    else if !(cardJ l && begJ l [47, 47, 32]) then .inl (i + 1)
    else if !(operJ (blankJ (l.drop 2)) false).2 || (operJ (blankJ (l.drop 2)) false).1.isEmpty then .inl (i + 1)
    else .inr ((operJ (blankJ (l.drop 2)) false).1, t, i + 1)
def fieldJ (n : Nat) : Nat → Jb → List Jb → Nat → Nat ⊕ (Jb × List Jb × Nat)
  | 0, f, t, i => .inr (f, t, i)
  | k + 1, f, t, i => if f.getLastD 0 == 44 then match contJ n t i with
      | .inl b => .inl b
      | .inr (g, t2, i2) => fieldJ n k (f ++ g) t2 i2
    else .inr (f, t, i)
def parsesJ : List Jb → Option (List PrmJ)
  | [] => some []
  | s :: t => match parseJ s, parsesJ t with
    | some p, some ps => some (p :: ps)
    | _, _ => none
def stmtJ (n : Nat) (l : Jb) (t : List Jb) (i : Nat) : Nat ⊕ (StmJ × List Jb × Nat) :=
  let name := (cut1J (l.drop 2)).1
  let op := (cut1J (cut1J (l.drop 2)).2).1
  let f := operJ (cut1J (cut1J (l.drop 2)).2).2 false
  if !f.2 || !labelJ name || !opJ op then .inl (i + 1)
  else match fieldJ n (t.length + 1) f.1 t (i + 1) with
    | .inl b => .inl b
    | .inr (g, t2, i2) => if g.isEmpty then .inr (⟨(i : Int) + 1, name, op, [], []⟩, t2, i2)
      else match splitJ g with
        | none => .inl (i + 1)
        | some ws => match parsesJ ws with
          | none => .inl (i + 1)
          | some ps => .inr (⟨(i : Int) + 1, name, op, ps, []⟩, t2, i2)
def dataJ (k : Nat) : List Jb → Nat → Nat ⊕ (List Jb × List Jb × Nat)
  | [], i => .inr ([], [], i)
  | l :: t, i => if k == 0 then .inr ([], l :: t, i)
    else if k == 1 && begJ l [47, 47] then .inr ([], l :: t, i)
    else if !cardJ l then .inl (i + 1)
    else if begJ l [47, 42] then .inr ([], t, i + 1)
    else match dataJ k t (i + 1) with
      | .inl b => .inl b
      | .inr (d, t2, i2) => .inr (l :: d, t2, i2)
def deckJ (n : Nat) : Nat → List Jb → Nat → Nat ⊕ List StmJ
  | _, [], _ => .inr []
  | 0, _ :: _, _ => .inl 0
  | k + 1, l :: t, i =>
    if !cardJ l then .inl (i + 1)
    else if skipJ l then deckJ n k t (i + 1)
    else if !begJ l [47, 47] then .inl (i + 1)
    else match stmtJ n l t i with
      | .inl b => .inl b
      | .inr (s, t2, i2) => match dataJ (kindJ s) t2 i2 with
        | .inl b => .inl b
        | .inr (d, t3, i3) => match deckJ n k t3 i3 with
          | .inl b => .inl b
          | .inr ss => .inr ({ s with data := d } :: ss)
def sizeJ (L : List Jb) : Nat := (L.map List.length).sum
def scanJ (L : List Jb) : List StmJ × Int × Int :=
  if 65536 < sizeJ L then ([], 0, 2) else match deckJ L.length L.length L 0 with
    | .inl b => ([], b, 340)
    | .inr ss => (ss, 0, 0)
def wordJ (p : PrmJ) : Option Jb :=
  let s := if p.key.isEmpty then p.value else p.key ++ 61 :: p.value
  match parseJ s with
  | some q => if q.key = p.key ∧ q.value = p.value ∧ q.parts = p.parts then some s else none
  | none => none
def rowsJ : Nat → Jb → List PrmJ → Option (List Jb)
  | _, line, [] => some [line]
  | i, line, p :: ps => match wordJ p with
    | none => none
    | some t =>
      let t' := if ps.isEmpty then t else t ++ [44]
      if ps.isEmpty && t.isEmpty then none
      else if i == 0 then rowsJ (i + 1) (line ++ 32 :: t') ps
      else if line.length + t'.length ≤ 80 then rowsJ (i + 1) (line ++ t') ps
      else match rowsJ (i + 1) ([47, 47, 32] ++ t') ps with
        | some r => some (line :: r)
        | none => none
def rendJ (s : StmJ) : Option (List Jb) :=
  if !labelJ s.name || !opJ s.op then none
  else match rowsJ 0 ([47, 47] ++ s.name ++ 32 :: s.op) s.params with
    | some r => if r.all (fun t => decide (t.length ≤ 80)) then some r else none
    | none => none
def fitsJ (s : StmJ) : Bool := s.data.all fun t => !(kindJ s == 0 || !cardJ t || begJ t [47, 42] || (kindJ s == 1 && begJ t [47, 47]))
def printJ : List StmJ → Option (List Jb)
  | [] => some []
  | s :: ss => match rendJ s with
    | none => none
    | some r => if !fitsJ s then none else match printJ ss with
      | none => none
      | some o => some (r ++ s.data ++ (if kindJ s == 0 then [] else [[47, 42]]) ++ o)
def getJ (s : StmJ) (k : Jb) : Option PrmJ := s.params.find? fun p => p.key == k
end Go.Proofs.YtnaljgmcpagbbaaDoor

/- Layer 34 in plain Lean: the lines of errors; no program in sight. -/
namespace Go.Proofs.YtnaljgmcpagbbaaDoor
set_option linter.unusedVariables false
set_option linter.unusedSimpArgs false
theorem contJ_len {n : Nat} : ∀ (t : List Jb) (i : Nat) {g : Jb} {t2 : List Jb} {i2 : Nat}, contJ n t i = .inr (g, t2, i2) → t2.length < t.length ∧ i2 + t2.length = i + t.length ∧ g ≠ []
  | [], i, g, t2, i2, h => by cases h
  | l :: t, i, g, t2, i2, h => by
    unfold contJ at h
    split at h
    · have := contJ_len t (i + 1) h
      simp only [List.length_cons]; exact ⟨by omega, by omega, this.2.2⟩
    · split at h
      · cases h
      · split at h
        · cases h
        · rename_i h3
          simp only [Sum.inr.injEq, Prod.mk.injEq] at h
          obtain ⟨rfl, rfl, rfl⟩ := h
          simp only [List.length_cons]
          refine ⟨by omega, by omega, fun e => h3 ?_⟩
          rw [e]; simp
theorem contJ_pos {n : Nat} (hn : 0 < n) : ∀ (t : List Jb) (i : Nat) {b : Nat}, contJ n t i = .inl b → 0 < b
  | [], i, b, h => by cases h; exact hn
  | l :: t, i, b, h => by
    unfold contJ at h
    split at h
    · exact contJ_pos hn t (i + 1) h
    · split at h
      · injection h with h; omega
      · split at h
        · injection h with h; omega
        · cases h
theorem fieldJ_len {n : Nat} : ∀ (k : Nat) (f : Jb) (t : List Jb) (i : Nat) {g : Jb} {t2 : List Jb} {i2 : Nat}, fieldJ n k f t i = .inr (g, t2, i2) → t2.length ≤ t.length ∧ i2 + t2.length = i + t.length
  | 0, f, t, i, g, t2, i2, h => by
    simp only [fieldJ, Sum.inr.injEq, Prod.mk.injEq] at h
    obtain ⟨rfl, rfl, rfl⟩ := h; exact ⟨Nat.le_refl _, rfl⟩
  | k + 1, f, t, i, g, t2, i2, h => by
    unfold fieldJ at h
    split at h
    · split at h
      · cases h
      · rename_i f2 t3 i3 hc
        have h1 := contJ_len _ _ hc
        have h2 := fieldJ_len k _ _ _ h
        omega
    · simp only [Sum.inr.injEq, Prod.mk.injEq] at h
      obtain ⟨rfl, rfl, rfl⟩ := h; exact ⟨Nat.le_refl _, rfl⟩
theorem fieldJ_pos {n : Nat} (hn : 0 < n) : ∀ (k : Nat) (f : Jb) (t : List Jb) (i : Nat) {b : Nat}, fieldJ n k f t i = .inl b → 0 < b
  | 0, f, t, i, b, h => by cases h
  | k + 1, f, t, i, b, h => by
    unfold fieldJ at h
    split at h
    · split at h
      · rename_i b' hc
        injection h with h; subst h
        exact contJ_pos hn _ _ hc
      · exact fieldJ_pos hn k _ _ _ h
    · cases h
theorem stmtJ_len {n : Nat} {l : Jb} {t : List Jb} {i : Nat} {s : StmJ} {t2 : List Jb} {i2 : Nat} (h : stmtJ n l t i = .inr (s, t2, i2)) : t2.length ≤ t.length ∧ i2 + t2.length = i + 1 + t.length ∧ s.line = (i : Int) + 1 ∧ s.data = [] := by
  unfold stmtJ at h
  simp only at h
  split at h
  · cases h
  · split at h
    · cases h
    · rename_i g t3 i3 hf
      have h1 := fieldJ_len _ _ _ _ hf
      split at h
      · simp only [Sum.inr.injEq, Prod.mk.injEq] at h
        obtain ⟨rfl, rfl, rfl⟩ := h
        exact ⟨h1.1, h1.2, rfl, rfl⟩
      · split at h
        · cases h
        · split at h
          · cases h
          · simp only [Sum.inr.injEq, Prod.mk.injEq] at h
            obtain ⟨rfl, rfl, rfl⟩ := h
            exact ⟨h1.1, h1.2, rfl, rfl⟩
theorem stmtJ_pos {n : Nat} (hn : 0 < n) {l : Jb} {t : List Jb} {i b : Nat} (h : stmtJ n l t i = .inl b) : 0 < b := by
  unfold stmtJ at h
  simp only at h
  split at h
  · injection h with h; omega
  · split at h
    · rename_i b' hf
      injection h with h; subst h
      exact fieldJ_pos hn _ _ _ _ hf
    · split at h
      · cases h
      · split at h
        · injection h with h; omega
        · split at h
          · injection h with h; omega
          · cases h
theorem dataJ_len {k : Nat} : ∀ (t : List Jb) (i : Nat) {d t2 : List Jb} {i2 : Nat}, dataJ k t i = .inr (d, t2, i2) → t2.length ≤ t.length ∧ i2 + t2.length = i + t.length
  | [], i, d, t2, i2, h => by
    simp only [dataJ, Sum.inr.injEq, Prod.mk.injEq] at h
    obtain ⟨rfl, rfl, rfl⟩ := h; exact ⟨Nat.le_refl _, rfl⟩
  | l :: t, i, d, t2, i2, h => by
    unfold dataJ at h
    split at h
    · simp only [Sum.inr.injEq, Prod.mk.injEq] at h
      obtain ⟨rfl, rfl, rfl⟩ := h; exact ⟨Nat.le_refl _, rfl⟩
    · split at h
      · simp only [Sum.inr.injEq, Prod.mk.injEq] at h
        obtain ⟨rfl, rfl, rfl⟩ := h; exact ⟨Nat.le_refl _, rfl⟩
      · split at h
        · cases h
        · split at h
          · simp only [Sum.inr.injEq, Prod.mk.injEq] at h
            obtain ⟨rfl, rfl, rfl⟩ := h
            simp only [List.length_cons]; omega
          · split at h
            · cases h
            · rename_i d' t3 i3 hc
              simp only [Sum.inr.injEq, Prod.mk.injEq] at h
              obtain ⟨rfl, rfl, rfl⟩ := h
              have := dataJ_len t (i + 1) hc
              simp only [List.length_cons]; omega
theorem dataJ_pos {k : Nat} : ∀ (t : List Jb) (i : Nat) {b : Nat}, dataJ k t i = .inl b → 0 < b
  | [], i, b, h => by cases h
  | l :: t, i, b, h => by
    unfold dataJ at h
    split at h
    · cases h
    · split at h
      · cases h
      · split at h
        · injection h with h; omega
        · split at h
          · cases h
          · split at h
            · rename_i b' hc
              injection h with h; subst h
              exact dataJ_pos t (i + 1) hc
            · cases h
theorem deckJ_pos {n : Nat} (hn : 0 < n) : ∀ (k : Nat) (t : List Jb) (i : Nat) {b : Nat}, t.length ≤ k → deckJ n k t i = .inl b → 0 < b
  | _, [], i, b, _, h => by unfold deckJ at h; cases h
  | 0, l :: t, i, b, hk, h => by simp at hk
  | k + 1, l :: t, i, b, hk, h => by
    have hk : t.length ≤ k := by simpa using hk
    unfold deckJ at h
    split at h
    · injection h with h; omega
    · split at h
      · exact deckJ_pos hn k t (i + 1) hk h
      · split at h
        · injection h with h; omega
        · split at h
          · rename_i b' hs
            injection h with h; subst h
            exact stmtJ_pos hn hs
          · rename_i s t2 i2 hs
            have h1 := stmtJ_len hs
            split at h
            · rename_i b' hd
              injection h with h; subst h
              exact dataJ_pos _ _ hd
            · rename_i d t3 i3 hd
              have h2 := dataJ_len _ _ hd
              split at h
              · rename_i b' hr
                injection h with h; subst h
                exact deckJ_pos hn k t3 i3 (by omega) hr
              · cases h
theorem scanJ_long {L : List Jb} (h : 65536 < sizeJ L) : scanJ L = ([], 0, 2) := by unfold scanJ; rw [if_pos h]
theorem scanJ_short {L : List Jb} (h : ¬ 65536 < sizeJ L) : (∃ ss, deckJ L.length L.length L 0 = .inr ss ∧ scanJ L = (ss, 0, 0)) ∨ ∃ b : Nat, 0 < b ∧ deckJ L.length L.length L 0 = .inl b ∧ scanJ L = ([], (b : Int), 340) := by
  unfold scanJ
  rw [if_neg h]
  cases hd : deckJ L.length L.length L 0 with
  | inr ss => exact .inl ⟨ss, rfl, rfl⟩
  | inl b =>
    refine .inr ⟨b, ?_, rfl, rfl⟩
    refine deckJ_pos ?_ _ _ _ (Nat.le_refl _) hd
    cases L with
    | nil => cases hd
    | cons => simp
end Go.Proofs.YtnaljgmcpagbbaaDoor

/- Layer 34 in plain Lean: decks in pieces; no program in sight. -/
namespace Go.Proofs.YtnaljgmcpagbbaaDoor
set_option linter.unusedVariables false
set_option linter.unusedSimpArgs false
def shJ (d : Nat) (s : StmJ) : StmJ := { s with line := s.line + d }
def shC {α : Type} (d : Nat) : Nat ⊕ (α × List Jb × Nat) → Nat ⊕ (α × List Jb × Nat)
  | .inl b => .inl (b + d)
  | .inr (g, t, i) => .inr (g, t, i + d)
theorem contJ_sh (n d : Nat) : ∀ (t : List Jb) (i : Nat), contJ (n + d) t (i + d) = shC d (contJ n t i)
  | [], i => rfl
  | l :: t, i => by
    have ih := contJ_sh n d t (i + 1)
    rw [show i + 1 + d = i + d + 1 from by omega] at ih
    unfold contJ
    split
    · exact ih
    · split
      · simp only [shC]; congr 1; omega
      · split
        · simp only [shC]; congr 1; omega
        · simp only [shC]; congr 3; omega
theorem fieldJ_sh (n d : Nat) : ∀ (k : Nat) (f : Jb) (t : List Jb) (i : Nat), fieldJ (n + d) k f t (i + d) = shC d (fieldJ n k f t i)
  | 0, f, t, i => rfl
  | k + 1, f, t, i => by
    unfold fieldJ
    split
    · rw [contJ_sh n d t i]
      cases contJ n t i with
      | inl b => rfl
      | inr r => obtain ⟨g, t2, i2⟩ := r; exact fieldJ_sh n d k _ t2 i2
    · rfl
def shS (d : Nat) : Nat ⊕ (StmJ × List Jb × Nat) → Nat ⊕ (StmJ × List Jb × Nat)
  | .inl b => .inl (b + d)
  | .inr (s, t, i) => .inr (shJ d s, t, i + d)
theorem stmtJ_sh (n d : Nat) (l : Jb) (t : List Jb) (i : Nat) : stmtJ (n + d) l t (i + d) = shS d (stmtJ n l t i) := by
  unfold stmtJ
  simp only
  split
  · simp only [shS]; congr 1; omega
  · have h := fieldJ_sh n d (t.length + 1) (operJ (cut1J (cut1J (l.drop 2)).2).2 false).1 t (i + 1)
    rw [show i + 1 + d = i + d + 1 from by omega] at h
    rw [h]
    cases fieldJ n (t.length + 1) (operJ (cut1J (cut1J (l.drop 2)).2).2 false).1 t (i + 1) with
    | inl b => rfl
    | inr r =>
      obtain ⟨g, t2, i2⟩ := r
      simp only [shC]
      split
      · simp only [shS, shJ]; congr 3; omega
      · cases splitJ g with
        | none => simp only [shS]; congr 1; omega
        | some ws =>
          simp only
          cases parsesJ ws with
          | none => simp only [shS]; congr 1; omega
          | some ps => simp only [shS, shJ]; congr 3; omega
theorem dataJ_sh (k d : Nat) : ∀ (t : List Jb) (i : Nat), dataJ k t (i + d) = shC d (dataJ k t i)
  | [], i => rfl
  | l :: t, i => by
    have ih := dataJ_sh k d t (i + 1)
    rw [show i + 1 + d = i + d + 1 from by omega] at ih
    unfold dataJ
    split
    · rfl
    · split
      · rfl
      · split
        · simp only [shC]; congr 1; omega
        · split
          · simp only [shC]; congr 3; omega
          · rw [ih]
            cases dataJ k t (i + 1) with
            | inl b => rfl
            | inr r => obtain ⟨g, t2, i2⟩ := r; rfl
def shD (d : Nat) : Nat ⊕ List StmJ → Nat ⊕ List StmJ
  | .inl b => .inl (b + d)
  | .inr ss => .inr (ss.map (shJ d))
theorem kindJ_sh (d : Nat) (s : StmJ) : kindJ (shJ d s) = kindJ s := rfl
theorem deckJ_sh (n d : Nat) : ∀ (k : Nat) (t : List Jb) (i : Nat), t.length ≤ k → deckJ (n + d) k t (i + d) = shD d (deckJ n k t i)
  | k, [], i, _ => by unfold deckJ; rfl
  | 0, l :: t, i, h => by simp at h
  | k + 1, l :: t, i, h => by
    have h : t.length ≤ k := by simpa using h
    have ih := deckJ_sh n d k t (i + 1) h
    rw [show i + 1 + d = i + d + 1 from by omega] at ih
    unfold deckJ
    split
    · simp only [shD]; congr 1; omega
    · split
      · exact ih
      · split
        · simp only [shD]; congr 1; omega
        · rw [stmtJ_sh n d l t i]
          cases hs : stmtJ n l t i with
          | inl b => rfl
          | inr r =>
            obtain ⟨s, t2, i2⟩ := r
            have h1 := stmtJ_len hs
            simp only [shS, kindJ_sh]
            rw [dataJ_sh (kindJ s) d t2 i2]
            cases hd : dataJ (kindJ s) t2 i2 with
            | inl b => rfl
            | inr r =>
              obtain ⟨dd, t3, i3⟩ := r
              have h2 := dataJ_len _ _ hd
              simp only [shC]
              rw [deckJ_sh n d k t3 i3 (by omega)]
              cases deckJ n k t3 i3 with
              | inl b => rfl
              | inr ss => rfl
theorem deckJ_fuel (n : Nat) : ∀ (k k' : Nat) (t : List Jb) (i : Nat), t.length ≤ k → t.length ≤ k' → deckJ n k t i = deckJ n k' t i
  | k, k', [], i, _, _ => by unfold deckJ; rfl
  | 0, _, l :: t, i, h, _ => by simp at h
  | _ + 1, 0, l :: t, i, _, h => by simp at h
  | k + 1, k' + 1, l :: t, i, h, h' => by
    have h : t.length ≤ k := by simpa using h
    have h' : t.length ≤ k' := by simpa using h'
    unfold deckJ
    rw [deckJ_fuel n k k' t (i + 1) h h']
    split
    · rfl
    · split
      · rfl
      · split
        · rfl
        · cases hs : stmtJ n l t i with
          | inl b => rfl
          | inr r =>
            obtain ⟨s, t2, i2⟩ := r
            have h1 := stmtJ_len hs
            simp only
            cases hd : dataJ (kindJ s) t2 i2 with
            | inl b => rfl
            | inr r =>
              obtain ⟨dd, t3, i3⟩ := r
              have h2 := dataJ_len _ _ hd
              simp only
              rw [deckJ_fuel n k k' t3 i3 (by omega) (by omega)]
theorem contJ_app {n n' : Nat} (B : List Jb) : ∀ (a : List Jb) (i : Nat) {g : Jb} {t2 : List Jb} {i2 : Nat}, contJ n a i = .inr (g, t2, i2) → contJ n' (a ++ B) i = .inr (g, t2 ++ B, i2)
  | [], i, g, t2, i2, h => by cases h
  | l :: t, i, g, t2, i2, h => by
    rw [List.cons_append]
    unfold contJ at h ⊢
    split at h
    · rename_i c; rw [if_pos c]; exact contJ_app B t (i + 1) h
    · rename_i c
      rw [if_neg c]
      split at h
      · cases h
      · rename_i c2
        rw [if_neg c2]
        split at h
        · cases h
        · rename_i c3
          rw [if_neg c3]
          simp only [Sum.inr.injEq, Prod.mk.injEq] at h
          obtain ⟨rfl, rfl, rfl⟩ := h; rfl
theorem fieldJ_app {n n' : Nat} (B : List Jb) : ∀ (k k' : Nat) (f : Jb) (a : List Jb) (i : Nat) {g : Jb} {t2 : List Jb} {i2 : Nat}, a.length < k → a.length < k' → fieldJ n k f a i = .inr (g, t2, i2) → fieldJ n' k' f (a ++ B) i = .inr (g, t2 ++ B, i2)
  | 0, _, f, a, i, g, t2, i2, h, _, _ => by omega
  | _ + 1, 0, f, a, i, g, t2, i2, _, h, _ => by omega
  | k + 1, k' + 1, f, a, i, g, t2, i2, hk, hk', h => by
    unfold fieldJ at h ⊢
    split at h
    · rename_i c
      rw [if_pos c]
      split at h
      · cases h
      · rename_i f2 t3 i3 hc
        rw [contJ_app (n' := n') B a i hc]
        have := contJ_len _ _ hc
        exact fieldJ_app B k k' _ t3 i3 (by omega) (by omega) h
    · rename_i c
      rw [if_neg c]
      simp only [Sum.inr.injEq, Prod.mk.injEq] at h
      obtain ⟨rfl, rfl, rfl⟩ := h; rfl
theorem stmtJ_app {n n' : Nat} (B : List Jb) {l : Jb} {a : List Jb} {i : Nat} {s : StmJ} {t2 : List Jb} {i2 : Nat} (h : stmtJ n l a i = .inr (s, t2, i2)) : stmtJ n' l (a ++ B) i = .inr (s, t2 ++ B, i2) := by
  unfold stmtJ at h ⊢
  simp only at h ⊢
  split at h
  · cases h
  · rename_i c
    rw [if_neg c]
    split at h
    · cases h
    · rename_i g t3 i3 hf
      rw [fieldJ_app (n' := n') B _ ((a ++ B).length + 1) _ a (i + 1) (by omega) (by rw [List.length_append]; omega) hf]
      simp only
      split at h
      · rename_i c2
        rw [if_pos c2]
        simp only [Sum.inr.injEq, Prod.mk.injEq] at h
        obtain ⟨rfl, rfl, rfl⟩ := h; rfl
      · rename_i c2
        rw [if_neg c2]
        split at h
        · cases h
        · rename_i ws hw
          split at h
          · cases h
          · rename_i ps hp
            simp only [Sum.inr.injEq, Prod.mk.injEq] at h
            obtain ⟨rfl, rfl, rfl⟩ := h; rfl
theorem dataJ_app {k : Nat} (b : List Jb) : ∀ (a : List Jb) (i : Nat) {d t2 : List Jb} {i2 : Nat}, dataJ k a i = .inr (d, t2, i2) →
    dataJ k (a ++ [47, 42] :: b) i = .inr (d, t2 ++ [47, 42] :: b, i2) ∨ (t2 = [] ∧ dataJ k (a ++ [47, 42] :: b) i = .inr (d, b, i2 + 1))
  | [], i, d, t2, i2, h => by
    simp only [dataJ, Sum.inr.injEq, Prod.mk.injEq] at h
    obtain ⟨rfl, rfl, rfl⟩ := h
    by_cases hk : k = 0
    · subst hk; left; rfl
    · right
      refine ⟨rfl, ?_⟩
      show dataJ k ([47, 42] :: b) i = _
      unfold dataJ
      have h0 : (k == 0) = false := by simpa using hk
      have h1 : begJ [47, 42] [47, 47] = false := by decide
      have h2 : cardJ [47, 42] = true := by decide
      have h3 : begJ [47, 42] [47, 42] = true := by decide
      rw [h0, h1, h2, h3]
      simp
  | l :: t, i, d, t2, i2, h => by
    rw [List.cons_append]
    unfold dataJ at h ⊢
    split at h
    · rename_i c
      rw [if_pos c]
      simp only [Sum.inr.injEq, Prod.mk.injEq] at h
      obtain ⟨rfl, rfl, rfl⟩ := h; exact .inl rfl
    · rename_i c
      rw [if_neg c]
      split at h
      · rename_i c2
        rw [if_pos c2]
        simp only [Sum.inr.injEq, Prod.mk.injEq] at h
        obtain ⟨rfl, rfl, rfl⟩ := h; exact .inl rfl
      · rename_i c2
        rw [if_neg c2]
        split at h
        · cases h
        · rename_i c3
          rw [if_neg c3]
          split at h
          · rename_i c4
            rw [if_pos c4]
            simp only [Sum.inr.injEq, Prod.mk.injEq] at h
            obtain ⟨rfl, rfl, rfl⟩ := h; exact .inl rfl
          · rename_i c4
            rw [if_neg c4]
            split at h
            · cases h
            · rename_i d' t3 i3 hc
              simp only [Sum.inr.injEq, Prod.mk.injEq] at h
              obtain ⟨rfl, rfl, rfl⟩ := h
              rcases dataJ_app b t (i + 1) hc with e | ⟨e0, e⟩
              · left; rw [e]
              · right; exact ⟨e0, by rw [e]⟩
def appD (ss : List StmJ) : Nat ⊕ List StmJ → Nat ⊕ List StmJ
  | .inl b => .inl b
  | .inr ts => .inr (ss ++ ts)
theorem deckJ_app {n n' : Nat} (b : List Jb) : ∀ (k k' kb : Nat) (a : List Jb) (i : Nat) {ss : List StmJ}, a.length ≤ k → a.length + b.length < k' → b.length ≤ kb → deckJ n k a i = .inr ss →
    deckJ n' k' (a ++ [47, 42] :: b) i = appD ss (deckJ n' kb b (i + a.length + 1))
  | k, 0, kb, a, i, ss, _, h, _, _ => by omega
  | k, k' + 1, kb, [], i, ss, _, h', hb, h => by
    have : ss = [] := by unfold deckJ at h; injection h with h; exact h.symm
    subst this
    have hR := deckJ_fuel n' k' kb b (i + 1) (by simp at h'; omega) hb
    show deckJ n' (k' + 1) ([47, 42] :: b) i = appD [] (deckJ n' kb b (i + 0 + 1))
    rw [Nat.add_zero, ← hR]
    generalize hX : deckJ n' k' b (i + 1) = X
    unfold deckJ
    have h2 : cardJ [47, 42] = true := by decide
    have h3 : skipJ [47, 42] = true := by decide
    rw [h2, h3]
    simp only [Bool.not_true, Bool.false_eq_true, if_false, if_true, hX]
    cases X <;> rfl
  | 0, k' + 1, kb, l :: t, i, ss, hk, _, _, _ => by simp at hk
  | k + 1, k' + 1, kb, l :: t, i, ss, hk, h', hb, h => by
    have hk : t.length ≤ k := by simpa using hk
    have h' : t.length + b.length < k' := by simp only [List.length_cons] at h'; omega
    obtain ⟨R, hR⟩ : ∃ R, deckJ n' kb b (i + t.length + 1 + 1) = R := ⟨_, rfl⟩
    rw [List.cons_append, show i + (l :: t).length + 1 = i + t.length + 1 + 1 from by simp only [List.length_cons]; omega, hR]
    unfold deckJ at h ⊢
    split at h
    · cases h
    · rename_i c
      rw [if_neg c]
      split at h
      · rename_i c2
        rw [if_pos c2]
        rw [deckJ_app b k k' kb t (i + 1) hk h' hb h, show i + 1 + t.length + 1 = i + t.length + 1 + 1 from by omega, hR]
      · rename_i c2
        rw [if_neg c2]
        split at h
        · cases h
        · rename_i c3
          rw [if_neg c3]
          split at h
          · cases h
          · rename_i s t2 i2 hs
            have h1 := stmtJ_len hs
            rw [stmtJ_app (n' := n') ([47, 42] :: b) hs]
            simp only
            split at h
            · cases h
            · rename_i d t3 i3 hd
              have h2 := dataJ_len _ _ hd
              split at h
              · cases h
              · rename_i ss' hr
                injection h with h; subst h
                rcases dataJ_app b t2 i2 hd with e | ⟨e0, e⟩
                · rw [e]
                  simp only
                  rw [deckJ_app b k k' kb t3 i3 (by omega) (by omega) hb hr]
                  rw [show i3 + t3.length + 1 = i + t.length + 1 + 1 from by omega, hR]
                  cases R <;> rfl
                · rw [e]
                  subst e0
                  have : ss' = [] := by unfold deckJ at hr; injection hr with hr; exact hr.symm
                  subst this
                  simp only
                  simp only [List.length_nil] at h2
                  rw [deckJ_fuel n' k' kb b (i3 + 1) (by omega) hb, show i3 + 1 = i + t.length + 1 + 1 from by omega, hR]
                  cases R <;> rfl
theorem sizeJ_app (a b : List Jb) : sizeJ (a ++ b) = sizeJ a + sizeJ b := by unfold sizeJ; rw [List.map_append, List.sum_append]
theorem scanJ_join {a b : List Jb} {ss : List StmJ} (ha : scanJ a = (ss, 0, 0)) (hs : sizeJ a + 2 + sizeJ b ≤ 65536) :
    scanJ (a ++ [47, 42] :: b) = if (scanJ b).2.2 = 0 then (ss ++ (scanJ b).1.map (shJ (a.length + 1)), 0, 0) else ([], (scanJ b).2.1 + (a.length + 1 : Nat), (scanJ b).2.2) := by
  have hall : ¬ 65536 < sizeJ (a ++ [47, 42] :: b) := by
    rw [sizeJ_app]
    have : sizeJ ([47, 42] :: b) = 2 + sizeJ b := by unfold sizeJ; simp
    omega
  have hda : deckJ a.length a.length a 0 = .inr ss := by
    rcases scanJ_short (L := a) (by omega) with ⟨s, h1, h2⟩ | ⟨x, h0, h1, h2⟩
    · rw [h2] at ha; injection ha with ha; rw [← ha]; exact h1
    · rw [h2] at ha; simp at ha
  have key := deckJ_app (n' := (a ++ [47, 42] :: b).length) b a.length (a ++ [47, 42] :: b).length b.length a 0 (Nat.le_refl _) (by simp) (Nat.le_refl _) hda
  have hsh := deckJ_sh b.length (a.length + 1) b.length b 0 (Nat.le_refl _)
  rw [show b.length + (a.length + 1) = (a ++ [47, 42] :: b).length from by simp; omega, show 0 + (a.length + 1) = 0 + a.length + 1 from by omega] at hsh
  rw [hsh] at key
  rcases scanJ_short hall with ⟨s, h1, h2⟩ | ⟨x, h0, h1, h2⟩
  · rw [h2]
    rw [h1] at key
    rcases scanJ_short (L := b) (by omega) with ⟨s', h3, h4⟩ | ⟨x, h5, h3, h4⟩
    · rw [h3] at key
      simp only [shD, appD, Sum.inr.injEq] at key
      rw [h4, key, if_pos rfl]
    · rw [h3] at key; cases key
  · rw [h2]
    rw [h1] at key
    rcases scanJ_short (L := b) (by omega) with ⟨s', h3, h4⟩ | ⟨y, h5, h3, h4⟩
    · rw [h3] at key; cases key
    · rw [h3] at key
      simp only [shD, appD, Sum.inl.injEq] at key
      rw [h4, if_neg (by simp)]
      simp only [Prod.mk.injEq, true_and, and_true]
      rw [key]; simp
end Go.Proofs.YtnaljgmcpagbbaaDoor

/- Layer 34 in plain Lean: a comment ahead of a statement; no program in sight. -/
namespace Go.Proofs.YtnaljgmcpagbbaaDoor
set_option linter.unusedVariables false
set_option linter.unusedSimpArgs false
theorem contJ_pre {n : Nat} : ∀ (a : List Jb) (i : Nat) {g : Jb} {t2 : List Jb} {i2 : Nat}, contJ n a i = .inr (g, t2, i2) → ∃ pre, a = pre ++ t2 ∧ ∀ (n' : Nat) (X : List Jb), contJ n' (pre ++ X) i = .inr (g, X, i2)
  | [], i, g, t2, i2, h => by cases h
  | l :: t, i, g, t2, i2, h => by
    unfold contJ at h
    split at h
    · rename_i c
      obtain ⟨pre, h1, h2⟩ := contJ_pre t (i + 1) h
      exact ⟨l :: pre, by rw [h1]; rfl, fun n' X => by rw [List.cons_append]; unfold contJ; rw [if_pos c]; exact h2 n' X⟩
    · rename_i c
      split at h
      · cases h
      · rename_i c2
        split at h
        · cases h
        · rename_i c3
          simp only [Sum.inr.injEq, Prod.mk.injEq] at h
          obtain ⟨rfl, rfl, rfl⟩ := h
          exact ⟨[l], rfl, fun n' X => by show contJ n' (l :: X) i = _; unfold contJ; rw [if_neg c, if_neg c2, if_neg c3]⟩
theorem fieldJ_pre {n : Nat} : ∀ (k : Nat) (f : Jb) (a : List Jb) (i : Nat) {g : Jb} {t2 : List Jb} {i2 : Nat}, a.length < k → fieldJ n k f a i = .inr (g, t2, i2) →
    ∃ pre, a = pre ++ t2 ∧ ∀ (n' k' : Nat) (X : List Jb), pre.length < k' → fieldJ n' k' f (pre ++ X) i = .inr (g, X, i2)
  | 0, f, a, i, g, t2, i2, h, _ => by omega
  | k + 1, f, a, i, g, t2, i2, hk, h => by
    unfold fieldJ at h
    split at h
    · rename_i c
      split at h
      · cases h
      · rename_i f2 t3 i3 hc
        have hl := contJ_len _ _ hc
        obtain ⟨p1, h1, h2⟩ := contJ_pre _ _ hc
        obtain ⟨p2, h3, h4⟩ := fieldJ_pre k _ t3 i3 (by omega) h
        refine ⟨p1 ++ p2, by rw [h1, h3, List.append_assoc], fun n' k' X hk' => ?_⟩
        have hp1 : 0 < p1.length := by
          have := congrArg List.length h1
          rw [List.length_append] at this; omega
        rw [List.length_append] at hk'
        obtain ⟨k', rfl⟩ : ∃ m, k' = m + 1 := ⟨k' - 1, by omega⟩
        rw [List.append_assoc]
        unfold fieldJ
        rw [if_pos c, h2 n' (p2 ++ X)]
        exact h4 n' k' X (by omega)
    · rename_i c
      simp only [Sum.inr.injEq, Prod.mk.injEq] at h
      obtain ⟨rfl, rfl, rfl⟩ := h
      refine ⟨[], rfl, fun n' k' X hk' => ?_⟩
      cases k' with
      | zero => rfl
      | succ k' => rw [List.nil_append]; unfold fieldJ; rw [if_neg c]
theorem stmtJ_pre {n : Nat} {l : Jb} {a : List Jb} {i : Nat} {s : StmJ} {t2 : List Jb} {i2 : Nat} (h : stmtJ n l a i = .inr (s, t2, i2)) : ∃ pre, a = pre ++ t2 ∧ ∀ (n' : Nat) (X : List Jb), stmtJ n' l (pre ++ X) i = .inr (s, X, i2) := by
  unfold stmtJ at h
  simp only at h
  split at h
  · cases h
  · rename_i c
    split at h
    · cases h
    · rename_i g t3 i3 hf
      obtain ⟨pre, h1, h2⟩ := fieldJ_pre _ _ a _ (by omega) hf
      have fin : t3 = t2 → i3 = i2 → ∀ (n' : Nat) (X : List Jb), (if g.isEmpty then (.inr (⟨(i : Int) + 1, (cut1J (l.drop 2)).1, (cut1J (cut1J (l.drop 2)).2).1, [], []⟩, X, i3) : Nat ⊕ (StmJ × List Jb × Nat))
          else match splitJ g with
            | none => .inl (i + 1)
            | some ws => match parsesJ ws with
              | none => .inl (i + 1)
              | some ps => .inr (⟨(i : Int) + 1, (cut1J (l.drop 2)).1, (cut1J (cut1J (l.drop 2)).2).1, ps, []⟩, X, i3)) = .inr (s, X, i2) → stmtJ n' l (pre ++ X) i = .inr (s, X, i2) := fun e1 e2 n' X hx => by
        unfold stmtJ
        simp only
        rw [if_neg c, h2 n' _ X (by rw [List.length_append]; omega)]
        exact hx
      split at h
      · rename_i c2
        simp only [Sum.inr.injEq, Prod.mk.injEq] at h
        obtain ⟨rfl, rfl, rfl⟩ := h
        exact ⟨pre, h1, fun n' X => fin rfl rfl n' X (by rw [if_pos c2])⟩
      · rename_i c2
        split at h
        · cases h
        · rename_i ws hw
          split at h
          · cases h
          · rename_i ps hp
            simp only [Sum.inr.injEq, Prod.mk.injEq] at h
            obtain ⟨rfl, rfl, rfl⟩ := h
            exact ⟨pre, h1, fun n' X => fin rfl rfl n' X (by rw [if_neg c2, hw]; simp only [hp])⟩
theorem dataJ_pre {k : Nat} : ∀ (a : List Jb) (i : Nat) {d : List Jb} {y : Jb} {t2 : List Jb} {i2 : Nat}, dataJ k a i = .inr (d, y :: t2, i2) →
    ∃ pre, a = pre ++ y :: t2 ∧ ∀ (x : Jb) (X : List Jb), (x = y ∨ begJ x [47, 47] = true) → dataJ k (pre ++ x :: X) i = .inr (d, x :: X, i2)
  | [], i, d, y, t2, i2, h => by cases h
  | l :: t, i, d, y, t2, i2, h => by
    unfold dataJ at h
    split at h
    · rename_i c
      simp only [Sum.inr.injEq, Prod.mk.injEq, List.cons.injEq] at h
      obtain ⟨rfl, ⟨rfl, rfl⟩, rfl⟩ := h
      exact ⟨[], rfl, fun x X _ => by rw [List.nil_append]; unfold dataJ; rw [if_pos c]⟩
    · rename_i c
      split at h
      · rename_i c2
        simp only [Sum.inr.injEq, Prod.mk.injEq, List.cons.injEq] at h
        obtain ⟨rfl, ⟨rfl, rfl⟩, rfl⟩ := h
        refine ⟨[], rfl, fun x X hx => ?_⟩
        rw [List.nil_append]
        unfold dataJ
        rw [if_neg c]
        rcases hx with rfl | hx
        · rw [if_pos c2]
        · rw [if_pos (by rw [Bool.and_eq_true] at c2 ⊢; exact ⟨c2.1, hx⟩)]
      · rename_i c2
        split at h
        · cases h
        · rename_i c3
          split at h
          · rename_i c4
            simp only [Sum.inr.injEq, Prod.mk.injEq] at h
            obtain ⟨rfl, rfl, rfl⟩ := h
            exact ⟨[l], rfl, fun x X _ => by show dataJ k (l :: x :: X) i = _; unfold dataJ; rw [if_neg c, if_neg c2, if_neg c3, if_pos c4]⟩
          · rename_i c4
            split at h
            · cases h
            · rename_i d' t3 i3 hc
              simp only [Sum.inr.injEq, Prod.mk.injEq] at h
              obtain ⟨rfl, rfl, rfl⟩ := h
              obtain ⟨pre, h1, h2⟩ := dataJ_pre t (i + 1) hc
              refine ⟨l :: pre, by rw [h1]; rfl, fun x X hx => ?_⟩
              rw [List.cons_append]
              unfold dataJ
              rw [if_neg c, if_neg c2, if_neg c3, if_neg c4, h2 x X hx]
theorem deckJ_n {n n' : Nat} : ∀ (k : Nat) (t : List Jb) (i : Nat) {ss : List StmJ}, t.length ≤ k → deckJ n k t i = .inr ss → deckJ n' k t i = .inr ss
  | k, [], i, ss, _, h => by unfold deckJ at h ⊢; exact h
  | 0, l :: t, i, ss, hk, _ => by simp at hk
  | k + 1, l :: t, i, ss, hk, h => by
    have hk : t.length ≤ k := by simpa using hk
    unfold deckJ at h ⊢
    split at h
    · cases h
    · rename_i c
      rw [if_neg c]
      split at h
      · rename_i c2; rw [if_pos c2]; exact deckJ_n k t (i + 1) hk h
      · rename_i c2
        rw [if_neg c2]
        split at h
        · cases h
        · rename_i c3
          rw [if_neg c3]
          split at h
          · cases h
          · rename_i s t2 i2 hs
            have h1 := stmtJ_len hs
            obtain ⟨pre, e1, e2⟩ := stmtJ_pre hs
            have e3 := e2 n' t2
            rw [← e1] at e3
            rw [e3]
            simp only
            split at h
            · cases h
            · rename_i d t3 i3 hd
              have h2 := dataJ_len _ _ hd
              split at h
              · cases h
              · rename_i ss' hr
                rw [deckJ_n k t3 i3 (by omega) hr]
                exact h
theorem deckJ_ins (c : Jb) (hc1 : cardJ c = true) (hc2 : begJ c [47, 47, 42] = true) (hc3 : begJ c [47, 47] = true) {n : Nat} : ∀ (k : Nat) (t : List Jb) (i : Nat) {ss : List StmJ} (j : Nat) (hj : j < ss.length), t.length ≤ k → deckJ n k t i = .inr ss →
    ∃ p : Nat, ss[j].line = (i : Int) + (p : Int) + 1 ∧ p < t.length ∧ ∀ n' k', t.length + 1 ≤ k' → deckJ n' k' (t.take p ++ c :: t.drop p) i = .inr (ss.take j ++ (ss.drop j).map (shJ 1))
  | k, [], i, ss, j, hj, _, h => by
    unfold deckJ at h; injection h with h; subst h; simp at hj
  | 0, l :: t, i, ss, j, hj, hk, _ => by simp at hk
  | k + 1, l :: t, i, ss, j, hj, hk, h => by
    have hk : t.length ≤ k := by simpa using hk
    have h0 := h
    unfold deckJ at h
    split at h
    · cases h
    · rename_i c1
      split at h
      · rename_i c2
        obtain ⟨p, h1, h2, h3⟩ := deckJ_ins c hc1 hc2 hc3 k t (i + 1) j hj hk h
        refine ⟨p + 1, by rw [h1]; omega, by simp only [List.length_cons]; omega, fun n' k' hk' => ?_⟩
        simp only [List.length_cons] at hk'
        obtain ⟨k', rfl⟩ : ∃ m, k' = m + 1 := ⟨k' - 1, by omega⟩
        rw [List.take_succ_cons, List.drop_succ_cons, List.cons_append]
        unfold deckJ
        rw [if_neg c1, if_pos c2]
        exact h3 n' k' (by omega)
      · rename_i c2
        split at h
        · cases h
        · rename_i c3
          split at h
          · cases h
          · rename_i s t2 i2 hs
            have l1 := stmtJ_len hs
            split at h
            · cases h
            · rename_i d t3 i3 hd
              have l2 := dataJ_len _ _ hd
              split at h
              · cases h
              · rename_i ss' hr
                injection h with h; subst h
                cases j with
                | zero =>
                  refine ⟨0, by simp only [List.getElem_cons_zero]; rw [l1.2.2.1]; omega, by simp, fun n' k' hk' => ?_⟩
                  simp only [List.length_cons] at hk'
                  obtain ⟨k', rfl⟩ : ∃ m, k' = m + 1 := ⟨k' - 1, by omega⟩
                  simp only [List.take_zero, List.drop_zero, List.nil_append]
                  have hsh := deckJ_sh n' 1 k' (l :: t) i (by simp only [List.length_cons]; omega)
                  have hA : deckJ n' k' (l :: t) i = .inr ({ s with data := d } :: ss') := by
                    rw [deckJ_fuel n' k' (k + 1) (l :: t) i (by simp only [List.length_cons]; omega) (by simp only [List.length_cons]; omega)]
                    exact deckJ_n (k + 1) (l :: t) i (by simp only [List.length_cons]; omega) h0
                  have hB : deckJ (n' + 1) k' (l :: t) (i + 1) = .inr (({ s with data := d } :: ss').map (shJ 1)) := by rw [hsh, hA]; rfl
                  have hC : deckJ n' k' (l :: t) (i + 1) = .inr (({ s with data := d } :: ss').map (shJ 1)) := deckJ_n k' (l :: t) (i + 1) (by simp only [List.length_cons]; omega) hB
                  generalize hX : deckJ n' k' (l :: t) (i + 1) = X at hC
                  unfold deckJ
                  have hsk : skipJ c = true := by unfold skipJ; rw [hc2]; rfl
                  rw [hc1, hsk]
                  simp only [Bool.not_true, Bool.false_eq_true, if_false, if_true, hX]
                  exact hC
                | succ j =>
                  obtain ⟨p, h1, h2, h3⟩ := deckJ_ins c hc1 hc2 hc3 k t3 i3 j (by simpa using hj) (by omega) hr
                  obtain ⟨y, t3', rfl⟩ : ∃ y t', t3 = y :: t' := by
                    cases t3 with
                    | nil => simp at h2
                    | cons y t' => exact ⟨y, t', rfl⟩
                  obtain ⟨ps, e1, e2⟩ := stmtJ_pre hs
                  obtain ⟨pd, e3, e4⟩ := dataJ_pre _ _ hd
                  have el : t.length = ps.length + (pd.length + (y :: t3').length) := by rw [e1, e3, List.length_append, List.length_append]
                  have ht : l :: t = (l :: ps ++ pd) ++ (y :: t3') := by rw [e1, e3]; simp
                  have htl : (l :: ps ++ pd).length = 1 + ps.length + pd.length := by simp; omega
                  have hi3 : i3 = i + (1 + ps.length + pd.length) := by have q1 := l1.2.1; have q2 := l2.2; omega
                  refine ⟨(l :: ps ++ pd).length + p, ?_, ?_, fun n' k' hk' => ?_⟩
                  · simp only [List.getElem_cons_succ]; rw [h1, htl]; omega
                  · have hq := congrArg List.length ht
                    rw [List.length_append] at hq
                    rw [hq]; exact Nat.add_lt_add_left h2 _
                  · rw [ht, List.take_append, List.drop_append]
                    rw [List.take_of_length_le (by omega), List.drop_of_length_le (by omega)]
                    rw [show (l :: ps ++ pd).length + p - (l :: ps ++ pd).length = p from by omega, List.nil_append]
                    obtain ⟨z, Z, hz, hzy⟩ : ∃ z Z, (y :: t3').take p ++ c :: (y :: t3').drop p = z :: Z ∧ (z = y ∨ begJ z [47, 47] = true) := by
                      cases p with
                      | zero => exact ⟨c, y :: t3', rfl, .inr hc3⟩
                      | succ p => exact ⟨y, _, rfl, .inl rfl⟩
                    simp only [List.length_cons] at hk'
                    obtain ⟨k', rfl⟩ : ∃ m, k' = m + 1 := ⟨k' - 1, by omega⟩
                    have h3' := h3 n' k' (by simp only [List.length_cons] at el ⊢; omega)
                    rw [List.append_assoc, hz] at *
                    rw [show l :: ps ++ pd ++ z :: Z = l :: (ps ++ (pd ++ z :: Z)) from by simp]
                    unfold deckJ
                    rw [if_neg c1, if_neg c2, if_neg c3, e2 n' (pd ++ z :: Z)]
                    simp only [e4 z Z hzy, h3']
                    simp
theorem scanJ_note {l : List Jb} {ss : List StmJ} (h : scanJ l = (ss, 0, 0)) (c : Jb) (hc1 : cardJ c = true) (hc2 : begJ c [47, 47, 42] = true) (hc3 : begJ c [47, 47] = true) (hs : sizeJ l + c.length ≤ 65536) (j : Nat) (hj : j < ss.length) :
    ∃ p : Nat, ss[j].line = (p : Int) + 1 ∧ p < l.length ∧ scanJ (l.take p ++ c :: l.drop p) = (ss.take j ++ (ss.drop j).map (shJ 1), 0, 0) := by
  have hd : deckJ l.length l.length l 0 = .inr ss := by
    rcases scanJ_short (L := l) (by omega) with ⟨s, h1, h2⟩ | ⟨x, h0, h1, h2⟩
    · rw [h2] at h; injection h with h; rw [← h]; exact h1
    · rw [h2] at h; simp at h
  obtain ⟨p, h1, h2, h3⟩ := deckJ_ins c hc1 hc2 hc3 l.length l 0 j hj (Nat.le_refl _) hd
  refine ⟨p, by rw [h1]; omega, h2, ?_⟩
  have hsz : sizeJ (l.take p ++ c :: l.drop p) = sizeJ l + c.length := by
    rw [sizeJ_app]
    have : sizeJ l = sizeJ (l.take p) + sizeJ (l.drop p) := by rw [← sizeJ_app, List.take_append_drop]
    rw [this]
    unfold sizeJ
    simp; omega
  have hlen : (l.take p ++ c :: l.drop p).length = l.length + 1 := by simp; omega
  have := h3 (l.take p ++ c :: l.drop p).length (l.take p ++ c :: l.drop p).length (by omega)
  unfold scanJ
  rw [if_neg (by omega), this]
end Go.Proofs.YtnaljgmcpagbbaaDoor
