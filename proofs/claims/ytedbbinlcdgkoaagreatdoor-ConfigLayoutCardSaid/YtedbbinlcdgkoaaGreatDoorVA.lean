import Derived.Test.YtedbbinlcdgkoaaGreatDoorGc
/- The value machine: what values stand for. No program in sight. -/
namespace Go.Proofs.YtedbbinlcdgkoaaGreatDoor
open Go.RowKit
set_option linter.unusedVariables false
set_option linter.unusedSimpArgs false

inductive V where
  | int (k : IntKind) (n : Int)
  | bool (b : Bool)
  | str (l : List UInt8)
  /-- a struct or an array by value: its cells -/
  | agg (l : List V)
  | tup (l : List V)
  /-- a slice that is only read: its elements of k cells each -/
  | sl (k : Nat) (rows : List (List V))
  | nil
  /-- a pointer into the box o -/
  | ptr (o off : Nat)
  /-- the slice object o while it has n elements -/
  | own (o n : Nat)
  /-- the slice of the n first elements of a box, whose cells may be written -/
  | hs (o n : Nat)
  /-- a pointer into an element that is only read -/
  | rp (row : List V) (off : Nat)
  | fn (f : Fn) (caps : List V)
  | raw (v : Value)
  | any
  /-- a map, the map object o -/
  | mp (o : Nat)
  deriving Inhabited

mutual
def V.refs : V → List (Nat × Option Nat)
  | .agg l => V.refsL l
  | .tup l => V.refsL l
  | .fn _ l => V.refsL l
  | .ptr o _ => [(o, none)]
  | .own o n => [(o, some n)]
  | .hs o _ => [(o, none)]
  | .mp o => [(o, none)]
  | _ => []
def V.refsL : List V → List (Nat × Option Nat)
  | [] => []
  | x :: xs => x.refs ++ V.refsL xs
end

structure Sit where
  M : Nat → Nat → Prop
  W : World
  pb : Nat → Nat
  sv : Nat → Nat → Option Value

def cleanR (rows : List (List V)) : Prop := ∀ r ∈ rows, V.refsL r = []

mutual
def Rep (S : Sit) : V → Value → Prop
  | .int k n, v => v = .int k n
  | .bool b, v => v = .bool b
  | .str l, v => v = .string ⟨l.toArray⟩
  | .agg l, v => ∃ cs : List Value, v = .agg cs.toArray ∧ (∀ c ∈ cs, c.oneCell' = true) ∧ RepL S l cs
  | .tup l, v => ∃ cs : List Value, v = .tuple cs.toArray ∧ RepL S l cs
  | .sl k rows, v => ∃ a cap, v = .slice a rows.length cap ∧ rows.length ≤ cap ∧ cap ≤ maxLen ∧ (a = none → rows = []) ∧ (∀ r ∈ rows, r.length = k) ∧ cleanR rows ∧
      ∀ x, a = some x → (rows ≠ [] → x.spot = none) ∧ AtR S rows x.block x.off
  | .nil, v => v = .slice none 0 0
  | .ptr o off, v => v = .pointer (some ⟨S.pb o, off, none⟩)
  | .own o n, v => (∃ a cap, v = .slice a n cap) ∧ ∀ u, S.sv o n = some u → v = u
  | .hs o n, v => ∃ cap, v = .slice (some ⟨S.pb o, 0, none⟩) n cap ∧ n ≤ cap ∧ cap ≤ maxLen
  | .rp row off, v => ∃ b p, v = .pointer (some ⟨b, p + off, none⟩) ∧ V.refsL row = [] ∧ AtL S row b p
  | .fn f caps, v => ∃ cs : List Value, v = .func f #[] cs.toArray ∧ RepL S caps cs
  | .raw u, v => v = u
  | .any, _ => True
  | .mp o, v => v = .map (some (S.pb o))
def RepL (S : Sit) : List V → List Value → Prop
  | [], vs => vs = []
  | x :: xs, vs => ∃ u us, vs = u :: us ∧ Rep S x u ∧ RepL S xs us
def AtL (S : Sit) : List V → Nat → Nat → Prop
  | [], _, _ => True
  | x :: xs, b, p => (¬ S.M b p ∧ ∃ c, S.W.cell? ⟨b, p, none⟩ = some c ∧ c.oneCell' = true ∧ Rep S x c) ∧ AtL S xs b (p + 1)
def AtR (S : Sit) : List (List V) → Nat → Nat → Prop
  | [], _, _ => True
  | r :: rs, b, p => AtL S r b p ∧ AtR S rs b (p + r.length)
end

def SameRef (S S' : Sit) : Nat × Option Nat → Prop
  | (o, none) => S'.pb o = S.pb o
  | (o, some n) => ∀ u, S'.sv o n = some u → S.sv o n = some u

mutual
theorem Rep.mono {S S' : Sit} (hM : ∀ b p c, ¬ S.M b p → S.W.cell? ⟨b, p, none⟩ = some c → ¬ S'.M b p ∧ S'.W.cell? ⟨b, p, none⟩ = some c) :
    ∀ (x : V) (v : Value), (∀ r ∈ x.refs, SameRef S S' r) → Rep S x v → Rep S' x v
  | .int _ _, _, _, h => h
  | .bool _, _, _, h => h
  | .str _, _, _, h => h
  | .nil, _, _, h => h
  | .raw _, _, _, h => h
  | .any, _, _, h => h
  | .agg l, v, hr, h => by
    obtain ⟨cs, h1, h2, h3⟩ := h
    exact ⟨cs, h1, h2, RepL.mono hM l cs hr h3⟩
  | .tup l, v, hr, h => by
    obtain ⟨cs, h1, h2⟩ := h
    exact ⟨cs, h1, RepL.mono hM l cs hr h2⟩
  | .fn f l, v, hr, h => by
    obtain ⟨cs, h1, h2⟩ := h
    exact ⟨cs, h1, RepL.mono hM l cs hr h2⟩
  | .ptr o off, v, hr, h => by
    have h1 : S'.pb o = S.pb o := hr (o, none) (by simp [V.refs])
    show v = _
    rw [h1]; exact h
  | .mp o, v, hr, h => by
    have h1 : S'.pb o = S.pb o := hr (o, none) (by simp [V.refs])
    show v = _
    rw [h1]; exact h
  | .own o n, v, hr, h => ⟨h.1, fun u hu => h.2 u (hr (o, some n) (by simp [V.refs]) u hu)⟩
  | .hs o n, v, hr, h => by
    have h1 : S'.pb o = S.pb o := hr (o, none) (by simp [V.refs])
    obtain ⟨cap, h2, h3⟩ := h
    exact ⟨cap, by rw [h1]; exact h2, h3⟩
  | .sl k rows, v, _, h => by
    obtain ⟨a, cap, h1, h2, h3, h4, h5, h6, h7⟩ := h
    exact ⟨a, cap, h1, h2, h3, h4, h5, h6, fun x hx => ⟨(h7 x hx).1, AtR.mono hM rows x.block x.off h6 (h7 x hx).2⟩⟩
  | .rp row off, v, _, h => by
    obtain ⟨b, p, h1, h2, h3⟩ := h
    exact ⟨b, p, h1, h2, AtL.mono hM row b p (by rw [h2]; simp) h3⟩
theorem RepL.mono {S S' : Sit} (hM : ∀ b p c, ¬ S.M b p → S.W.cell? ⟨b, p, none⟩ = some c → ¬ S'.M b p ∧ S'.W.cell? ⟨b, p, none⟩ = some c) :
    ∀ (l : List V) (vs : List Value), (∀ r ∈ V.refsL l, SameRef S S' r) → RepL S l vs → RepL S' l vs
  | [], _, _, h => h
  | x :: xs, vs, hr, h => by
    obtain ⟨u, us, h1, h2, h3⟩ := h
    exact ⟨u, us, h1, Rep.mono hM x u (fun r h => hr r (List.mem_append_left _ h)) h2, RepL.mono hM xs us (fun r h => hr r (List.mem_append_right _ h)) h3⟩
theorem AtL.mono {S S' : Sit} (hM : ∀ b p c, ¬ S.M b p → S.W.cell? ⟨b, p, none⟩ = some c → ¬ S'.M b p ∧ S'.W.cell? ⟨b, p, none⟩ = some c) :
    ∀ (l : List V) (b p : Nat), (∀ r ∈ V.refsL l, SameRef S S' r) → AtL S l b p → AtL S' l b p
  | [], _, _, _, h => h
  | x :: xs, b, p, hr, h => by
    obtain ⟨⟨h1, c, h2, h4, h5⟩, h3⟩ := h
    obtain ⟨g1, g2⟩ := hM b p c h1 h2
    exact ⟨⟨g1, c, g2, h4, Rep.mono hM x c (fun r h => hr r (List.mem_append_left _ h)) h5⟩, AtL.mono hM xs b (p + 1) (fun r h => hr r (List.mem_append_right _ h)) h3⟩
theorem AtR.mono {S S' : Sit} (hM : ∀ b p c, ¬ S.M b p → S.W.cell? ⟨b, p, none⟩ = some c → ¬ S'.M b p ∧ S'.W.cell? ⟨b, p, none⟩ = some c) :
    ∀ (l : List (List V)) (b p : Nat), cleanR l → AtR S l b p → AtR S' l b p
  | [], _, _, _, h => h
  | r :: rs, b, p, hc, h =>
    ⟨AtL.mono hM r b p (by rw [hc r (List.mem_cons_self)]; simp) h.1, AtR.mono hM rs b (p + r.length) (fun x hx => hc x (List.mem_cons_of_mem _ hx)) h.2⟩
end

theorem Rep.clean {S S' : Sit} (hM : ∀ b p c, ¬ S.M b p → S.W.cell? ⟨b, p, none⟩ = some c → ¬ S'.M b p ∧ S'.W.cell? ⟨b, p, none⟩ = some c) {x : V} {v : Value} (hc : x.refs = []) (h : Rep S x v) : Rep S' x v :=
  h.mono hM x v (by rw [hc]; simp)

def V.cell : V → Bool
  | .agg _ | .tup _ | .any => false
  | .raw v => v.oneCell'
  | _ => true
theorem Rep.oneCell {S : Sit} : ∀ {x : V} {v : Value}, x.cell = true → Rep S x v → v.oneCell' = true
  | .int _ _, _, _, h => by cases h; rfl
  | .bool _, _, _, h => by cases h; rfl
  | .str _, _, _, h => by cases h; rfl
  | .nil, _, _, h => by cases h; rfl
  | .ptr _ _, _, _, h => by cases h; rfl
  | .own _ _, _, _, h => by obtain ⟨⟨a, c, rfl⟩, _⟩ := h; rfl
  | .hs _ _, _, _, h => by obtain ⟨c, rfl, _⟩ := h; rfl
  | .sl _ _, _, _, h => by obtain ⟨a, c, rfl, _⟩ := h; rfl
  | .rp _ _, _, _, h => by obtain ⟨a, c, rfl, _⟩ := h; rfl
  | .fn _ _, _, _, h => by obtain ⟨a, rfl, _⟩ := h; rfl
  | .raw u, v, hc, h => by cases h; exact hc
  | .mp _, _, _, h => by cases h; rfl

theorem RepL.length {S : Sit} : ∀ {l : List V} {vs : List Value}, RepL S l vs → vs.length = l.length
  | [], _, h => by cases h; rfl
  | x :: xs, _, h => by obtain ⟨u, us, rfl, _, h⟩ := h; simp [RepL.length h]
theorem RepL.get {S : Sit} : ∀ {l : List V} {vs : List Value}, RepL S l vs → ∀ (i : Nat) (h : i < l.length), ∃ u, vs[i]? = some u ∧ Rep S l[i] u
  | [], _, _, _, h => by simp at h
  | x :: xs, _, h, 0, _ => by obtain ⟨u, us, rfl, h1, _⟩ := h; exact ⟨u, rfl, h1⟩
  | x :: xs, _, h, i + 1, hi => by
    obtain ⟨u, us, rfl, _, h2⟩ := h
    obtain ⟨w, h3, h4⟩ := RepL.get h2 i (by simpa using hi)
    exact ⟨w, by simpa using h3, h4⟩
theorem RepL.append {S : Sit} : ∀ {l m : List V} {vs us : List Value}, RepL S l vs → RepL S m us → RepL S (l ++ m) (vs ++ us)
  | [], _, _, _, h, k => by cases h; exact k
  | x :: xs, _, _, _, h, k => by obtain ⟨u, us, rfl, h1, h2⟩ := h; exact ⟨u, _, rfl, h1, RepL.append h2 k⟩
theorem RepL.drop {S : Sit} : ∀ {l : List V} {vs : List Value} (n : Nat), RepL S l vs → RepL S (l.drop n) (vs.drop n)
  | _, _, 0, h => h
  | [], _, n + 1, h => by cases h; rfl
  | x :: xs, _, n + 1, h => by obtain ⟨u, us, rfl, _, h2⟩ := h; exact RepL.drop n h2
theorem RepL.take {S : Sit} : ∀ {l : List V} {vs : List Value} (n : Nat), RepL S l vs → RepL S (l.take n) (vs.take n)
  | _, _, 0, _ => by simp [RepL]
  | [], _, n + 1, h => by cases h; rfl
  | x :: xs, _, n + 1, h => by obtain ⟨u, us, rfl, h1, h2⟩ := h; exact ⟨u, _, rfl, h1, RepL.take n h2⟩
theorem RepL.set {S : Sit} : ∀ {l : List V} {vs : List Value} (n : Nat) {x : V} {u : Value}, RepL S l vs → Rep S x u → RepL S (l.set n x) (vs.set n u)
  | [], _, n, _, _, h, _ => by cases h; cases n <;> rfl
  | y :: ys, _, 0, _, _, h, k => by obtain ⟨u, us, rfl, h1, h2⟩ := h; exact ⟨_, us, rfl, k, h2⟩
  | y :: ys, _, n + 1, _, _, h, k => by obtain ⟨u, us, rfl, h1, h2⟩ := h; exact ⟨u, _, rfl, h1, RepL.set n h2 k⟩

theorem AtL.get {S : Sit} : ∀ {l : List V} {b p : Nat}, AtL S l b p → ∀ (i : Nat) (h : i < l.length), ¬ S.M b (p + i) ∧ ∃ c, S.W.cell? ⟨b, p + i, none⟩ = some c ∧ c.oneCell' = true ∧ Rep S l[i] c
  | [], _, _, _, _, h => by simp at h
  | x :: xs, b, p, h, 0, _ => h.1
  | x :: xs, b, p, h, i + 1, hi => by
    have := AtL.get h.2 i (by simpa using hi)
    rw [show p + (i + 1) = p + 1 + i from by omega]
    exact this
theorem AtL.of_get {S : Sit} : ∀ {l : List V} {b p : Nat}, (∀ (i : Nat) (h : i < l.length), ¬ S.M b (p + i) ∧ ∃ c, S.W.cell? ⟨b, p + i, none⟩ = some c ∧ c.oneCell' = true ∧ Rep S l[i] c) → AtL S l b p
  | [], _, _, _ => trivial
  | x :: xs, b, p, h => ⟨h 0 (by simp), AtL.of_get (fun i hi => by have := h (i + 1) (by simpa using hi); rw [show p + 1 + i = p + (i + 1) from by omega]; exact this)⟩
theorem AtL.cells {S : Sit} : ∀ {l : List V} {b p : Nat}, AtL S l b p → ∃ cs : List Value, RepL S l cs ∧ (∀ c ∈ cs, c.oneCell' = true) ∧ ∀ j u, cs[j]? = some u → S.W.cell? ⟨b, p + j, none⟩ = some u
  | [], _, _, _ => ⟨[], rfl, by simp, by simp⟩
  | x :: xs, b, p, h => by
    obtain ⟨⟨_, c, h1, h2, h3⟩, h4⟩ := h
    obtain ⟨cs, k1, k2, k3⟩ := AtL.cells h4
    refine ⟨c :: cs, ⟨c, cs, rfl, h3, k1⟩, by intro y hy; rcases List.mem_cons.1 hy with rfl | hy; exact h2; exact k2 y hy, ?_⟩
    intro j u hj
    cases j with
    | zero => simp at hj; subst hj; exact h1
    | succ j => rw [show p + (j + 1) = p + 1 + j from by omega]; exact k3 j u (by simpa using hj)
theorem AtR.flat {S : Sit} : ∀ {rows : List (List V)} {b p : Nat}, AtR S rows b p ↔ AtL S rows.flatten b p
  | [], _, _ => Iff.rfl
  | r :: rs, b, p => by
    rw [List.flatten_cons]
    constructor
    · intro h
      have h2 := AtR.flat.1 h.2
      refine AtL.of_get fun i hi => ?_
      rcases Nat.lt_or_ge i r.length with hl | hl
      · rw [List.getElem_append_left hl]; exact h.1.get i hl
      · rw [List.getElem_append_right hl, show p + i = p + r.length + (i - r.length) from by omega]
        exact h2.get _ _
    · intro h
      refine ⟨AtL.of_get fun i hi => ?_, AtR.flat.2 (AtL.of_get fun i hi => ?_)⟩
      · have := h.get i (by simp; omega)
        rw [List.getElem_append_left hi] at this; exact this
      · have := h.get (r.length + i) (by simp; simpa using hi)
        rw [List.getElem_append_right (by omega)] at this
        rw [show p + r.length + i = p + (r.length + i) from by omega]
        simpa using this
theorem flatten_len {k : Nat} : ∀ {rows : List (List V)}, (∀ r ∈ rows, r.length = k) → rows.flatten.length = rows.length * k
  | [], _ => by simp
  | r :: rs, h => by
    rw [List.flatten_cons, List.length_append, h r List.mem_cons_self, flatten_len (fun x hx => h x (List.mem_cons_of_mem _ hx)), List.length_cons, Nat.succ_mul, Nat.add_comm]
theorem AtR.row {S : Sit} {k : Nat} : ∀ {rows : List (List V)} {b p : Nat}, (∀ r ∈ rows, r.length = k) → AtR S rows b p → ∀ (i : Nat) (h : i < rows.length), AtL S rows[i] b (p + i * k)
  | [], _, _, _, _, _, h => by simp at h
  | r :: rs, b, p, _, h, 0, _ => by simpa using h.1
  | r :: rs, b, p, hk, h, i + 1, hi => by
    have := AtR.row (fun x hx => hk x (List.mem_cons_of_mem _ hx)) h.2 i (by simpa using hi)
    rw [hk r List.mem_cons_self] at this
    rw [show p + (i + 1) * k = p + k + i * k from by rw [Nat.succ_mul]; omega]
    exact this
theorem AtR.drop {S : Sit} {k : Nat} : ∀ {rows : List (List V)} {b p : Nat} (n : Nat), n ≤ rows.length → (∀ r ∈ rows, r.length = k) → AtR S rows b p → AtR S (rows.drop n) b (p + n * k)
  | _, _, _, 0, _, _, h => by simpa using h
  | [], _, _, n + 1, hn, _, _ => by simp at hn
  | r :: rs, b, p, n + 1, hn, hk, h => by
    have := AtR.drop n (by simpa using hn) (fun x hx => hk x (List.mem_cons_of_mem _ hx)) h.2
    rw [hk r List.mem_cons_self] at this
    rw [show p + (n + 1) * k = p + k + n * k from by rw [Nat.succ_mul]; omega]
    exact this
theorem AtR.take {S : Sit} : ∀ {rows : List (List V)} {b p : Nat} (n : Nat), AtR S rows b p → AtR S (rows.take n) b p
  | _, _, _, 0, _ => by simp [AtR]
  | [], _, _, n + 1, _ => by simp [AtR]
  | r :: rs, b, p, n + 1, h => ⟨h.1, AtR.take n h.2⟩
theorem refsL_append (l m : List V) : V.refsL (l ++ m) = V.refsL l ++ V.refsL m := by
  induction l with
  | nil => rfl
  | cons x xs ih => simp [V.refsL, ih, List.append_assoc]
theorem refsL_mem {l : List V} {x : V} (h : x ∈ l) : ∀ r ∈ x.refs, r ∈ V.refsL l := by
  induction l with
  | nil => cases h
  | cons y ys ih =>
    intro r hr
    rcases List.mem_cons.1 h with rfl | h
    · exact List.mem_append_left _ hr
    · exact List.mem_append_right _ (ih h r hr)
theorem refsL_nil_of {l : List V} (h : V.refsL l = []) {x : V} (hx : x ∈ l) : x.refs = [] := by
  cases hr : x.refs with
  | nil => rfl
  | cons r rs => have := refsL_mem hx r (by rw [hr]; simp); rw [h] at this; cases this
theorem refsL_sub {l m : List V} (h : ∀ x ∈ m, x ∈ l) : ∀ r ∈ V.refsL m, r ∈ V.refsL l := by
  induction m with
  | nil => intro r hr; cases hr
  | cons y ys ih =>
    intro r hr
    rcases List.mem_append.1 hr with hr | hr
    · exact refsL_mem (h y List.mem_cons_self) r hr
    · exact ih (fun x hx => h x (List.mem_cons_of_mem _ hx)) r hr

def ofVal : Value → V
  | .int k n => .int k n
  | .bool b => .bool b
  | .string s => .str s.data.toList
  | .slice a n c => if a = none ∧ n = 0 ∧ c = 0 then .nil else .raw (.slice a n c)
  | .func f x y => if x.size = 0 ∧ y.size = 0 then .fn f [] else .raw (.func f x y)
  | .agg _ => .any
  | .tuple _ => .any
  | .float k b => .raw (.float k b)
  | .complex k a b => .raw (.complex k a b)
  | .pointer a => .raw (.pointer a)
  | .map r => .raw (.map r)
  | .chan r => .raw (.chan r)
  | .nilFunc => .raw .nilFunc
  | .iface t v => .raw (.iface t v)
  | .nilIface => .raw .nilIface
theorem ofVal_rep (S : Sit) (v : Value) : Rep S (ofVal v) v := by
  cases v with
  | string s => show Value.string s = .string ⟨s.data.toList.toArray⟩; cases s; simp
  | slice a n c =>
    simp only [ofVal]
    split
    · rename_i h; obtain ⟨rfl, rfl, rfl⟩ := h; rfl
    · rfl
  | func f x y =>
    simp only [ofVal]
    split
    · rename_i h; obtain ⟨h1, h2⟩ := h; rw [Array.size_eq_zero_iff] at h1 h2; subst h1; subst h2; exact ⟨[], rfl, rfl⟩
    · rfl
  | agg _ => trivial
  | tuple _ => trivial
  | _ => rfl
theorem ofVal_refs (v : Value) : (ofVal v).refs = [] := by
  cases v with
  | slice a n c => simp only [ofVal]; split <;> rfl
  | func f x y => simp only [ofVal]; split <;> rfl
  | _ => rfl

def V.cells? : V → Option (List V)
  | .agg l => some l
  | .tup _ => none
  | .any => none
  | .raw v => if v.oneCell' then some [.raw v] else none
  | x => some [x]
theorem cells_rep {S : Sit} : ∀ {x : V} {v : Value} {l : List V}, x.cells? = some l → Rep S x v → RepL S l v.cells.toList ∧ ∀ c ∈ v.cells.toList, c.oneCell' = true := by
  have one : ∀ {x : V} {v : Value} {l : List V}, x.cell = true → l = [x] → Rep S x v → RepL S l v.cells.toList ∧ ∀ c ∈ v.cells.toList, c.oneCell' = true := by
    intro x v l hc hl h
    subst hl
    have h1 := Rep.oneCell hc h
    have h2 : v.cells = #[v] := by cases v <;> first | rfl | (simp [Value.oneCell'] at h1)
    rw [h2]
    exact ⟨⟨v, [], rfl, h, rfl⟩, by simp [h1]⟩
  intro x v l hl h
  cases x with
  | agg m =>
    obtain ⟨cs, rfl, h1, h2⟩ := h
    simp only [V.cells?, Option.some.injEq] at hl; subst hl
    exact ⟨by simpa [Value.cells] using h2, by simpa [Value.cells] using h1⟩
  | tup m => simp [V.cells?] at hl
  | any => simp [V.cells?] at hl
  | raw u =>
    by_cases hu : u.oneCell' = true
    · simp only [V.cells?, hu, if_true, Option.some.injEq] at hl
      exact one (x := .raw u) hu hl.symm h
    · simp [V.cells?, hu] at hl
  | _ => simp only [V.cells?, Option.some.injEq] at hl; exact one rfl hl.symm h
theorem cells_refs {x : V} {l : List V} (h : x.cells? = some l) : V.refsL l = x.refs := by
  cases x with
  | raw v =>
    by_cases hu : v.oneCell' = true
    · simp only [V.cells?, hu, if_true, Option.some.injEq] at h; subst h; rfl
    · simp [V.cells?, hu] at h
  | _ => simp [V.cells?] at h; try (subst h; simp [V.refsL, V.refs])

end Go.Proofs.YtedbbinlcdgkoaaGreatDoor
