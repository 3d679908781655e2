import Derived.Laws.Runes
import Derived.Outline
import Derived.WalkMore
import Derived.Lib.OthersKept
import Derived.Deep.LoopGhost
import Derived.Deep.QuietTactic
import Derived.BigQuiet
import Derived.RangeFuncNested
import Derived.RangeFuncBound
import Derived.RangeFuncCalls
import Derived.RangeFuncLeaves
import Derived.Shelf.Abstract
import Derived.Shelf.RegionOpen
import Derived.WalkKit
import Derived.OwnWalkIn
import Derived.TacticsInMore
import Derived.LoopNIn
import Derived.LoopIn
import Derived.WalkSpells
import Derived.WalkLawsBesides
import Derived.Test.YtjedikaidbobdaaGreatDoorProg
import Derived.Test.YtjedikaidbobdaaGreatDoorShelf
import Derived.Test.YtjedikaidbobdaaGreatDoorUN
/- Loops over strings.SplitSeq; names and serials of layer 26. -/
-- SIMP: beq_self_eq_true, Bool.and_self
namespace Go.Proofs.YtjedikaidbobdaaGreatDoor
open Go.RowKit Go.Shelf
set_option linter.unusedVariables false
set_option linter.unusedSimpArgs false
theorem str_inj {S T : ByteArray} (h : S.data.toList = T.data.toList) : S = T := by
  cases S; cases T; simp only at h; congr 1; exact Array.toList_inj.1 h
theorem bs_of (S : ByteArray) : (⟨S.data.toList.toArray⟩ : ByteArray) = S := by cases S; simp
theorem bs_len (S : ByteArray) : S.data.toList.length = S.size := by simp
theorem repL3 {S : Sit} {x y z : V} {vs : List Value} (h : RepL S [x, y, z] vs) : ∃ u v t, vs = [u, v, t] ∧ Rep S x u ∧ Rep S y v ∧ Rep S z t := by obtain ⟨u, _, rfl, h1, v, _, rfl, h2, t, _, rfl, h3, h4⟩ := h; cases h4; exact ⟨u, v, t, rfl, h1, h2, h3⟩
def splitAtC (d : UInt8) : Bs → List Bs
  | [] => [[]]
  | c :: t => if c = d then [] :: splitAtC d t else match splitAtC d t with
    | [] => [[c]]
    | p :: ps => (c :: p) :: ps
theorem splitAtC_ne (d : UInt8) : ∀ s, splitAtC d s ≠ []
  | [] => by simp [splitAtC]
  | c :: t => by
    unfold splitAtC
    split
    · simp
    · split <;> simp
theorem splitAtC_cons (d : UInt8) : ∀ (p t : Bs), (∀ c ∈ p, c ≠ d) → splitAtC d (p ++ d :: t) = p :: splitAtC d t
  | [], t, _ => by simp [splitAtC]
  | c :: p, t, h => by
    have ih := splitAtC_cons d p t (fun x hx => h x (List.mem_cons_of_mem _ hx))
    rw [List.cons_append, splitAtC, if_neg (h c List.mem_cons_self), ih]
theorem splitAtC_last (d : UInt8) : ∀ (p : Bs), (∀ c ∈ p, c ≠ d) → splitAtC d p = [p]
  | [], _ => rfl
  | c :: p, h => by
    have ih := splitAtC_last d p (fun x hx => h x (List.mem_cons_of_mem _ hx))
    rw [splitAtC, if_neg (h c List.mem_cons_self), ih]
def szV : Value → Nat
  | .string b => b.size
  | _ => 0
def AbB {β : Type} (b B : Nat) (J : β → World → Prop) : Prop :=
  ∀ s W W' row, J s W → W.grownBy W' row → (∀ r, row = some r → r = b ∨ (B ≤ r ∧ ∃ o : Obj, W.heap[r]? = some o ∧ o.isWalk = true)) → J s W'
def OwB {β : Type} (b B : Nat) (I : β → World → Prop) : Prop :=
  ∀ s W W' row, I s W → W.grownBy W' row → (∀ r, row = some r → r = b ∨ (B ≤ r ∧ ∃ o : Obj, W.heap[r]? = some o ∧ o.isCells = false)) → I s W'
def SeqB {α : Type} (n : Nat) (P : Program) (gf : Nat) (lb : Array Value) (enc : α → Value) (Kp : World → World → Prop) (S Sp : List α → Prop) (N b : Nat) (w : World) : Prop :=
  ∀ (l : Nat) (J Jx : List α → World → Prop) (W : World), Below w.heap.size w W → AbB b W.heap.size J → AbB b W.heap.size Jx →
    (∀ pre x W1, J pre W1 → pre.length < N → szV (enc x) ≤ N → YieldAt Fence.wide (n - 1) P l #[enc x] W1 fun e W' =>
      (e = .returned (.bool true) ∧ J (pre ++ [x]) W' ∧ Kp W1 W') ∨ (e = .returned (.bool false) ∧ Jx (pre ++ [x]) W')) →
    J [] W →
    CallsIn Fence.wide n P gf (#[.func (.yield l) #[] #[]] ++ lb) W fun e W' => (∃ v, e = .returned v) ∧ ((∃ xs, S xs ∧ J xs W') ∨ (∃ pre, Sp pre ∧ Jx pre W'))

section
variable {β : Type} {b B : Nat} {I : β → World → Prop}
theorem OwB.put (h : OwB b B I) {s : β} {W : World} {l : Nat} {o : Obj} (o' : Obj) (hs : I s W) (hB : B ≤ l) (hl : W.heap[l]? = some o) (ho : o.isCells = false) : I s (W.putObj l o') :=
  h s W _ (some l) hs (grownBy_putObj' W l o') (fun r e => by cases e; exact .inr ⟨hB, o, hl, ho⟩)
theorem OwB.new (h : OwB b B I) {s : β} {W : World} (o : Obj) (hs : I s W) : I s (W.alloc o) := h s W _ none hs (World.grownBy_alloc W o none) (fun r e => by cases e)
end

def frameB (a : Act) (p q : Nat) (v : Value) : Act := { tmps := (a.tmps.setIfInBounds p v).setIfInBounds q v, defers := [] }

theorem rangeB {P : Program} {α : Type} {g : Operand} {p : Nat} {assign body : Code} {Q : Exit → Act → World → Prop} {a : Act} {w : World} (q n b : Nat)
    (h1 : 1 ≤ n) {gf : Nat} {lb : Array Value} (hg : a.eval g = .func (.func gf) #[] lb) (eg : ∀ args w, (callFunc gf args).run P w = .ok (.enter gf args) w)
    (enc : α → Value) {Kp : World → World → Prop} {S Sp : List α → Prop} {N : Nat} (hblt : b < w.heap.size) (hseq : SeqB (n - 1) P gf lb enc Kp S Sp N b w)
    (hKt : ∀ {A B C : World}, Kp A B → Kp B C → Kp A C) (hKb : ∀ (W : World) (l : Nat) (o o' : Obj), w.heap.size ≤ l → W.heap[l]? = some o → o.isCells = false → o.isWalk = false → Kp W (W.putObj l o'))
    (I : List α → World → Prop) (Ix : Code → List α → World → Prop) (hI : OwB b w.heap.size I) (hIx : ∀ c, OwB b w.heap.size (Ix c)) (h0 : I [] w)
    (hassign : ∀ (l : Nat) (x : α) (W : World) (K : Act → World → Prop), K (frameB a p q (enc x)) W →
      assign.wpIn (Fence.wide.inRound l) (n - 1 - 1) P (Exit.then K (fun _ _ _ => False)) { tmps := a.tmps.setIfInBounds p (enc x), defers := [] } W)
    (hbody : ∀ (l : Nat) (pre : List α) (x : α) (W : World), I pre W → pre.length < N → szV (enc x) ≤ N → body.wpIn (Fence.wide.inRound l) (n - 1 - 1) P (ownPostK Kp I Ix (pre ++ [x]) W) (frameB a p q (enc x)) W)
    (hdone : ∀ (D : Nat) (xs : List α) (W : World), w.heap.size ≤ D → S xs → I xs W → W.heap[D]? = some (.deferred (some [])) → Q .normal { a with defers := { target := .collected D, args := #[] } :: a.defers } W)
    (hstop : ∀ (D : Nat) (c : Code) (pre : List α) (W : World), w.heap.size ≤ D → Sp pre → Ix c pre W → W.heap[D]? = some (.deferred (some [])) → c.wp P Q { a with defers := { target := .collected D, args := #[] } :: a.defers } W) :
    (Code.rangeFunc g #[p] assign body).wp P Q a w := by
  refine (wpIn_wide (n := n)).1 (wpIn_rangeFunc fun fn hfn => ?_)
  let lp : LoopState → Option Code → Obj := fun st pe => .loop { state := st, pending := pe, fn, tmps := a.tmps, params := #[p], assign, body, defers := w.heap.size }
  -- the two blocks of the loop's book-keeping
  let D := w.heap.size
  let l := w.heap.size + 1
  let Bk : World → LoopState → Option Code → Prop := fun W st pe => W.heap[l]? = some (lp st pe) ∧ W.heap[D]? = some (.deferred (some []))
  obtain ⟨W1, hW1⟩ : ∃ W1, (w.alloc (.deferred (some []))).alloc (lp .ready none) = W1 := ⟨_, rfl⟩
  have hsz : W1.heap.size = w.heap.size + 2 := by rw [← hW1]; simp
  have hB1 : Bk W1 .ready none := by
    rw [← hW1]
    exact ⟨al_new (by simp [l]), al_old (al_new rfl)⟩
  have put : ∀ {W : World} {st st' : LoopState} {pe pe' : Option Code}, Bk W st pe → Bk (W.putObj l (lp st' pe')) st' pe' := fun h =>
    ⟨World.putObj_heap_same (lt_of_block h.1), (World.putObj_heap_other (by show D ≠ l; simp [D, l])).trans h.2⟩
  have keepBk : ∀ {W W' : World} {row : Option Nat} {st : LoopState} {pe : Option Code}, Bk W st pe → W.grownBy W' row → (∀ r, row = some r → r = b ∨ (W1.heap.size ≤ r ∧ ∃ o : Obj, W.heap[r]? = some o ∧ o.isWalk = true)) → Bk W' st pe := by
    intro W W' row st pe h hgr hr
    have ne : ∀ k, k = D ∨ k = l → some k ≠ row := fun k hk e => by
      have hD : D = w.heap.size := rfl
      have hl : l = w.heap.size + 1 := rfl
      rcases hr k e.symm with h | ⟨h, _⟩ <;> omega
    exact ⟨(hgr.block l (lt_of_block h.1) (ne l (.inr rfl))).trans h.1, (hgr.block D (lt_of_block h.2) (ne D (.inl rfl))).trans h.2⟩
  have wide : ∀ {A : World} {row : Option Nat}, (∀ r, row = some r → r = b ∨ (W1.heap.size ≤ r ∧ ∃ o : Obj, A.heap[r]? = some o ∧ o.isWalk = true)) → ∀ r, row = some r → r = b ∨ (w.heap.size ≤ r ∧ ∃ o : Obj, A.heap[r]? = some o ∧ o.isCells = false) := by
    intro A row hr r e
    rcases hr r e with h | ⟨h, o, ho, hw⟩
    · exact .inl h
    · exact .inr ⟨by omega, o, ho, Obj.not_cells_of_walk hw⟩
  refine ⟨l, [{ target := .collected D, args := #[] }], W1, { target := .fn (.func gf) lb, args := #[.func (.yield l) #[] #[]] }, W1, gf, #[.func (.yield l) #[] #[]] ++ lb, W1, ?_, ?_, fun _ _ => trivial, ?_, fun _ => h1, ?_⟩
  · rw [← hW1]; exact run_enterLoop_outer _ _ _ _ _
  · simp only [resolve, hg]
    simp [go_sem]
  · simp [invoke, go_sem, eg]
  · have hbel : Below w.heap.size w W1 := by rw [← hW1]; exact ((Below.refl _ w).alloc (Nat.le_refl _) _).alloc (by simp) _
    refine (hseq l (fun pre W => I pre W ∧ Bk W .ready none) (fun pre W => ∃ c, Ix c pre W ∧ Bk W .done (some c)) W1 hbel
      (fun s A A' row hs hgr hr => ⟨hI s A A' row hs.1 hgr (wide hr), keepBk hs.2 hgr hr⟩)
      (fun s A A' row hs hgr hr => by obtain ⟨c, hc, hk⟩ := hs; exact ⟨c, hIx c s A A' row hc hgr (wide hr), keepBk hk hgr hr⟩) ?_ ⟨by rw [← hW1]; exact hI.new _ (hI.new _ h0), hB1⟩).mono ?_
    · rintro pre x W ⟨hi, hk⟩ hlen hsv
      have hyield := run_yield (P := P) (args := #[enc x]) hk.1 rfl
      have hz : (#[p].zip #[enc x]).foldl (fun tmps (t, a) => tmps.setIfInBounds t a) a.tmps = a.tmps.setIfInBounds p (enc x) := by simp
      dsimp only at hyield
      rw [hz] at hyield
      refine ⟨fn, _, assign, body, hyield, roundIn_of_wpIn hfn ?_⟩
      refine hassign l x W _ ?_
      refine ⟨_, run_beginRound hk.1 rfl, ?_⟩
      have hk2 : Bk (W.putObj l (lp .busy none)) .busy none := put hk
      have hle : w.heap.size ≤ l := by simp [l]
      refine wpIn_mono (hbody l pre x _ (hI.put _ hi hle hk.1 rfl) hlen hsv) ?_
      -- the round's end, whatever the way out
      have fin : ∀ (jump : Option Code) (W3 : World), KeepsOthers (W.putObj l (lp .busy none)) W3 →
          W3.heap[l]? = some (lp .busy none) ∧ (Instr.endRound l jump).run P W3 = .ok (.bool jump.isNone) (W3.putObj l (lp (if jump.isNone then .ready else .done) jump)) ∧ Bk (W3.putObj l (lp (if jump.isNone then .ready else .done) jump)) (if jump.isNone then .ready else .done) jump := fun jump W3 hk3 => by
        have hb3 : Bk W3 .busy none := ⟨hk3.same _ _ hk2.1 rfl, hk3.same _ _ hk2.2 rfl⟩
        exact ⟨hb3.1, run_endRound (P := P) jump hb3.1, put hb3⟩
      have leaves : ∀ (c : Code) (W3 : World), KeepsOthers (W.putObj l (lp .busy none)) W3 → Ix c (pre ++ [x]) W3 →
          ∃ v w', (Instr.endRound l (some c)).run P W3 = .ok v w' ∧ ((Ending.returned v = .returned (.bool true) ∧ (I (pre ++ [x]) w' ∧ Bk w' .ready none) ∧ Kp W w') ∨ (Ending.returned v = .returned (.bool false) ∧ ∃ c, Ix c (pre ++ [x]) w' ∧ Bk w' .done (some c))) := fun c W3 hk3 hx => by
        obtain ⟨hl3, hrun, hb4⟩ := fin (some c) W3 hk3
        exact ⟨_, _, hrun, .inr ⟨rfl, c, (hIx c).put _ hx hle hl3 rfl, hb4⟩⟩
      rintro e a3 W3 hp
      cases e with
      | normal =>
        obtain ⟨hk3, hkp, hi3⟩ := hp
        obtain ⟨hl3, hrun, hb4⟩ := fin none W3 hk3
        exact ⟨_, _, hrun, .inl ⟨rfl, ⟨hI.put _ hi3 hle hl3 rfl, hb4⟩, hKt (hKt (hKb _ _ _ _ hle hk.1 rfl rfl) hkp) (hKb _ _ _ _ hle hl3 rfl rfl)⟩⟩
      | ret => exact leaves .ret W3 hp.1 hp.2
      | exit id => exact leaves (.exit id) W3 hp.1 hp.2
      | goto t => exact leaves (.goto t) W3 hp.1 hp.2
      | panic ch => exact hp.elim
      | outgrown => exact hp.elim
    · rintro e W2 ⟨⟨v, rfl⟩, (⟨xs, hS, hi, hk⟩ | ⟨pre, hSp, c, hi, hk⟩)⟩
      · exact ⟨none, _, run_endLoop (P := P) hk.1 (by simp), hdone D xs _ (Nat.le_refl _) hS (hI.put _ hi (by simp [l]) hk.1 rfl) (put (st' := .exhausted) (pe' := none) hk).2⟩
      · exact ⟨some c, _, run_endLoop (P := P) hk.1 (by simp), wpIn_wide.2 (hstop D c pre _ (Nat.le_refl _) hSp ((hIx c).put _ hi (by simp [l]) hk.1 rfl) (put (st' := .exhausted) (pe' := some c) hk).2)⟩

theorem keeps_chg {W W' : World} (h : Chg [] W W') : KeepsOthers W W' := ⟨h.size, fun k o hk ho => h.heap hk (by simp)⟩

end Go.Proofs.YtjedikaidbobdaaGreatDoor
namespace Go.Proofs.YtjedikaidbobdaaGreatDoor
open Go.RowKit Go.Shelf
set_option linter.unusedVariables false
set_option linter.unusedSimpArgs false
attribute [local go_sem] Oper.semAt_some
theorem byteIdx_cases (c : UInt8) : ∀ l : List UInt8, (Lib.indexByte l c = -1 ∧ ∀ x ∈ l, x ≠ c) ∨ ∃ k : Nat, Lib.indexByte l c = k ∧ k < l.length ∧ l = l.take k ++ c :: l.drop (k + 1) ∧ ∀ x ∈ l.take k, x ≠ c
  | [] => .inl ⟨rfl, by simp⟩
  | b :: l => by
    unfold Lib.indexByte
    by_cases hb : b = c
    · subst hb
      rw [if_pos (by simp)]
      exact .inr ⟨0, rfl, by simp, by simp, by simp⟩
    · rw [if_neg (by simpa using hb)]
      rcases byteIdx_cases c l with ⟨h, h'⟩ | ⟨k, h, h1, h2, h3⟩
      · rw [h, if_pos (by simp)]
        exact .inl ⟨rfl, fun x hx => by rcases List.mem_cons.1 hx with rfl | hx; exact hb; exact h' x hx⟩
      · rw [h, if_neg (by simp)]
        refine .inr ⟨k + 1, by omega, by simp; omega, by simp only [List.take_succ_cons, List.drop_succ_cons, List.cons_append]; rw [← h2], fun x hx => ?_⟩
        rw [List.take_succ_cons] at hx
        rcases List.mem_cons.1 hx with rfl | hx
        · exact hb
        · exact h3 x hx

def KpS (a b c : Nat) (W W' : World) : Prop := W'.heap[a]? = W.heap[a]? ∧ W'.heap[b]? = W.heap[b]? ∧ W'.heap[c]? = W.heap[c]?
theorem KpS.refl (a b c : Nat) (W : World) : KpS a b c W W := ⟨rfl, rfl, rfl⟩
theorem KpS.trans {a b c : Nat} {A B C : World} (h : KpS a b c A B) (k : KpS a b c B C) : KpS a b c A C := ⟨k.1.trans h.1, k.2.1.trans h.2.1, k.2.2.trans h.2.2⟩
theorem KpS.put {a b c : Nat} {w : World} (ha : a < w.heap.size) (hb : b < w.heap.size) (hc : c < w.heap.size) (W : World) (l : Nat) (o o' : Obj) (hl : w.heap.size ≤ l) (_ : W.heap[l]? = some o) (_ : o.isCells = false) (_ : o.isWalk = false) : KpS a b c W (W.putObj l o') :=
  ⟨World.putObj_heap_other (by omega), World.putObj_heap_other (by omega), World.putObj_heap_other (by omega)⟩
theorem KpS.of_chg {a b c : Nat} {L : List Nat} {W W' : World} (h : Chg L W W') (ha : a ∉ L) (hb : b ∉ L) (hc : c ∉ L) (la : a < W.heap.size) (lb : b < W.heap.size) (lc : c < W.heap.size) : KpS a b c W W' := ⟨h.block a la ha, h.block b lb hb, h.block c lc hc⟩

theorem grown_setCell (W : World) (b i : Nat) (v : Value) : W.grownBy (W.setCell ⟨b, i, none⟩ v) (some b) :=
  ⟨rfl, rfl, rfl, by simp, fun k _ hk => Below.heap_setCell _ _ _ _ (fun e => hk (by rw [e]))⟩

def strS (x : Bs) : Value := .string ⟨x.toArray⟩

def restLen (w : World) (b : Nat) : Nat := match w.cell? ⟨b, 0, none⟩ with | some (.string t) => t.size | _ => 0
theorem restLen_eq {w : World} {b : Nat} {t : ByteArray} (h : w.cell? ⟨b, 0, none⟩ = some (.string t)) : restLen w b = t.size := by unfold restLen; rw [h]

set_option maxRecDepth 100000 in
set_option maxHeartbeats 2000000 in
theorem split1_in (n : Nat) (hn : 1 ≤ n) (l sB pB vB : Nat) (s : Bs) (hs : s.length ≤ 1000000) (hsp : sB ≠ pB) (hsv : sB ≠ vB) (J Jx : List Bs → World → Prop) (B : Nat) (hJ : AbB sB B J)
    (hY : ∀ pre x W, J pre W → pre.length < s.length + 1 → szV (strS x) ≤ s.length + 1 → YieldAt Fence.wide (n - 1) Tryz.prog l #[strS x] W fun e W' =>
      (e = .returned (.bool true) ∧ J (pre ++ [x]) W' ∧ KpS sB pB vB W W') ∨ (e = .returned (.bool false) ∧ Jx (pre ++ [x]) W'))
    (W : World) (hB : W.heap[sB]? = some (.cells #[strS s] 9 (0, 0))) (hp : W.heap[pB]? = some (.cells #[strS [46]] 9 (0, 0))) (hv : W.heap[vB]? = some (.cells #[.int .i64 0] 3 (0, 0))) (h0 : J [] W) :
    CallsIn Fence.wide n Tryz.prog 106 #[.func (.yield l) #[] #[], .pointer (some ⟨pB, 0, none⟩), .pointer (some ⟨sB, 0, none⟩), .pointer (some ⟨vB, 0, none⟩)] W fun e W' => (∃ v, e = .returned v) ∧
      ((∃ xs, xs = splitAtC 46 s ∧ J xs W') ∨ (∃ pre, pre <+: splitAtC 46 s ∧ Jx pre W')) := by
  have cp := cell_of_one hp
  have cs := cell_of_one hB
  have HP := hid hp
  have HV := hid hv
  have HBB := hid hB
  clear hp hv hB
  refine callsIn_of_wp Tryz.func106 rfl trivial ?_ rfl
  simp only [Tryz.ntmps106, List.size_toArray, List.length_cons, List.length_nil, Nat.reduceAdd, Nat.reduceSub, Array.replicate_succ, Array.replicate_zero, List.push_toArray, List.append_toArray, List.nil_append, List.cons_append]
  unfold strS at cp
  gi_wp2
  gi_loopw [] (fun wr => ∃ (pre : List Bs) (rest : Bs), Hid (splitAtC 46 s = pre ++ splitAtC 46 rest) ∧ pre.length + rest.length ≤ s.length ∧ Hid (J pre wr) ∧ Hid (wr.heap[sB]? = some (.cells #[strS rest] 9 (0, 0))) ∧ Hid (wr.heap[pB]? = some (.cells #[strS [46]] 9 (0, 0))) ∧ Hid (wr.heap[vB]? = some (.cells #[.int .i64 0] 3 (0, 0))))
    (fun wr => restLen wr sB)
  case atStart => exact ⟨[], s, rfl, by simp, h0, HBB, HP, HV⟩
  case round =>
    clear cp cs
    obtain ⟨pre, rest, hsplit, hlen, hJs, hb, hp, hv⟩ := hrel
    have hlen1 : pre.length < s.length + 1 := by omega
    have hb1 := lt_of_block hb.out
    obtain ⟨T, hT⟩ : ∃ T : ByteArray, (⟨rest.toArray⟩ : ByteArray) = T := ⟨_, rfl⟩
    have hTd : T.data.toList = rest := by rw [← hT]
    have hTs : T.size = rest.length := by rw [← hT]; rfl
    have cs := cell_of_one hb.out
    have cp := cell_of_one hp.out
    have cv := cell_of_one hv.out
    have fs := free_of_one hb.out
    unfold strS at cs cp
    rw [hT] at cs
    have hI : ∀ W, Calls Tryz.prog 108 #[.string T, .string ⟨#[46]⟩] W fun e w' => e = .returned (.int .i64 (Lib.indexByte rest 46)) ∧ W = w' := fun W => by
      have h := Tryz.strings_Index_one T 46 W
      rw [hTd] at h
      exact h.mono fun _ _ ⟨a, b⟩ => ⟨a, b.symm⟩
    have hm := restLen_eq cs
    rw [hTs] at hm
    have HM := hid hm
    have HTd := hid hTd
    have HTs := hid hTs
    clear hTd hTs hm
    rcases byteIdx_cases 46 rest with ⟨h1, h2⟩ | ⟨k, h1, h2, h3, h4⟩
    · rw [h1] at hI
      have hlast := hid (splitAtC_last 46 rest h2)
      obtain ⟨fn, tmps, assign, body, hy, hR⟩ := hY pre rest wr hJs.out hlen1 (by show rest.length ≤ _; omega)
      unfold strS at hy
      rw [hT] at hy
      clear h1 h2 hT
      gi_wp2_with (refine ⟨trivial, ?_⟩; gi_at_call 108; refine (callsIn_wide.2 (hI _)).mono ?_; rintro e w' ⟨rfl, rfl⟩)
      refine hR.mono ?_
      rintro e W3 (⟨rfl, hJ3, hk3⟩ | ⟨rfl, hJx3⟩)
      · gi_wp2
        go_end0
        exact ⟨⟨_, rfl⟩, .inl ⟨_, by rw [hsplit.out, hlast.out], hJ3⟩⟩
      · gi_wp2
        go_end0
        exact ⟨⟨_, rfl⟩, .inr ⟨_, by rw [hsplit.out, hlast.out]; exact List.prefix_rfl, hJx3⟩⟩
    · rw [h1] at hI
      have hstep := hid (show splitAtC 46 rest = rest.take k :: splitAtC 46 (rest.drop (k + 1)) from by
        conv => lhs; rw [h3]
        exact splitAtC_cons 46 _ _ h4)
      obtain ⟨fn, tmps, assign, body, hy, hR⟩ := hY pre (rest.take k) wr hJs.out hlen1 (by show (rest.take k).length ≤ _; rw [List.length_take]; omega)
      unfold strS at hy
      obtain ⟨X1, hX1⟩ : ∃ X : ByteArray, (⟨(rest.take k).toArray⟩ : ByteArray) = X := ⟨_, rfl⟩
      obtain ⟨X2, hX2⟩ : ∃ X : ByteArray, (⟨(rest.drop (k + 1)).toArray⟩ : ByteArray) = X := ⟨_, rfl⟩
      have e1 : T.extract 0 k = X1 := by
        rw [← hX1]; apply str_inj; rw [ByteArray.data_extract, Array.toList_extract, HTd.out]; simp
      have e2 : T.extract (k + 1) T.size = X2 := by
        rw [← hX2]; apply str_inj; rw [ByteArray.data_extract, Array.toList_extract, HTd.out, HTs.out]; simp only [List.extract_eq_take_drop]; exact List.take_of_length_le (by simp)
      rw [hX1] at hy
      have hkT : k < T.size := by rw [HTs.out]; exact h2
      have hkTi : (k : Int) ≤ (T.size : Int) := by omega
      have hkTj : (k : Int) + 1 ≤ (T.size : Int) := by omega
      have hTmax : T.size ≤ 1000000 := by rw [HTs.out]; omega
      have HX2 := hid hX2
      have hdl : (rest.drop (k + 1)).length = rest.length - (k + 1) := List.length_drop
      have HDL := hid hdl
      clear h1 h3 h4 hT hX1 hX2 hdl
      gi_wp2_with (refine ⟨trivial, ?_⟩; gi_at_call 108; refine (callsIn_wide.2 (hI _)).mono ?_; rintro e w' ⟨rfl, rfl⟩)
      refine hR.mono ?_
      rintro e W3 (⟨rfl, hJ3, hk3⟩ | ⟨rfl, hJx3⟩)
      · have hb3 := hk3.1.trans hb.out
        have hp3 := hk3.2.1.trans hp.out
        have hv3 := hk3.2.2.trans hv.out
        have cs3 : W3.cell? ⟨sB, 0, none⟩ = some (.string T) := (World.cell?_of_block (w := wr) (a := ⟨sB, 0, none⟩) hk3.1).trans cs
        have cp3 : W3.cell? ⟨pB, 0, none⟩ = some (.string ⟨#[46]⟩) := (World.cell?_of_block (w := wr) (a := ⟨pB, 0, none⟩) hk3.2.1).trans cp
        have fs3 : W3.frozen? ⟨sB, 0, none⟩ = false := free_of_one hb3
        have J4 := hid (hJ _ _ _ _ hJ3 (grown_setCell W3 sB 0 (.string X2)) (fun r e => by cases e; exact .inl rfl))
        have hb4 := hid (one_setCell (u := .string X2) hb3)
        have hp4 := hid ((heap_setCell_other W3 ⟨sB, 0, none⟩ pB (.string X2) (Ne.symm hsp)).trans hp3)
        have hv4 := hid ((heap_setCell_other W3 ⟨sB, 0, none⟩ vB (.string X2) (Ne.symm hsv)).trans hv3)
        clear hb3 hp3 hv3 hJ3 hk3 cs cp cv fs hy hR
        gi_wp2
        go_roundw
        case rel =>
          refine ⟨_, _, _, _, _, _, _, _, _, _, _, _, _, _, _, _, _, _, _, _, _, _, ⟨pre ++ [rest.take k], rest.drop (k + 1), ?_, ?_, J4.out, ?_, hp4.out, hv4.out⟩, rfl⟩
          · show splitAtC 46 s = _
            rw [hsplit.out, hstep.out]; simp
          · rw [HDL.out, List.length_append, List.length_singleton]; rw [HTs.out] at hkT; omega
          · show _ = _
            rw [hb4.out, ← HX2.out]; rfl
        case measure =>
          rw [HM.out, restLen_eq (t := X2) (cell_of_one hb4.out), ← HX2.out]
          show (rest.drop (k + 1)).length < _
          rw [HDL.out]; rw [HTs.out] at hkT; omega
      · gi_wp2
        refine bodyPost_ret (results_none rfl _ _ _) rfl ?_
        refine ⟨⟨_, rfl⟩, .inr ⟨_, ?_, hJx3⟩⟩
        rw [hsplit.out, hstep.out]
        exact ⟨splitAtC 46 (rest.drop (k + 1)), by simp⟩

theorem split_seq (n : Nat) (hn : 1 ≤ n) (sB pB vB : Nat) (s : Bs) (hs : s.length ≤ 1000000) (hsp : sB ≠ pB) (hsv : sB ≠ vB) (w : World)
    (hB : w.heap[sB]? = some (.cells #[strS s] 9 (0, 0))) (hp : w.heap[pB]? = some (.cells #[strS [46]] 9 (0, 0))) (hv : w.heap[vB]? = some (.cells #[.int .i64 0] 3 (0, 0))) :
    SeqB n Tryz.prog 106 #[.pointer (some ⟨pB, 0, none⟩), .pointer (some ⟨sB, 0, none⟩), .pointer (some ⟨vB, 0, none⟩)] strS (KpS sB pB vB) (fun xs => xs = splitAtC 46 s) (fun pre => pre <+: splitAtC 46 s) (s.length + 1) sB w :=
  fun l J Jx W hW hJ hJx hY h0 => split1_in n hn l sB pB vB s hs hsp hsv J Jx W.heap.size hJ hY W ((hW.block sB (lt_of_block hB)).trans hB) ((hW.block pB (lt_of_block hp)).trans hp) ((hW.block vB (lt_of_block hv)).trans hv) h0

def partsV (k : Nat) : Value := .func (.func 106) #[] #[.pointer (some ⟨k + 1, 0, none⟩), .pointer (some ⟨k, 0, none⟩), .pointer (some ⟨k + 1 + 1, 0, none⟩)]
theorem splitSeq_any (S : ByteArray) (w : World) : Calls Tryz.prog 86 #[.string S, .string ⟨#[46]⟩, .int .i64 0] w fun e w' => e = .returned (partsV w.heap.size) ∧
    w' = ((w.alloc (.cells #[.string S] 9)).alloc (.cells #[.string ⟨#[46]⟩] 9)).alloc (.cells #[.int .i64 0] 3) := by
  go_enter Tryz.func86, Tryz.ntmps86
  go_wp2
  go_ret
  exact ⟨rfl, rfl⟩
theorem SplitSeq_any (S : ByteArray) (w : World) : Calls Tryz.prog 58 #[.string S, .string ⟨#[46]⟩] w fun e w' => e = .returned (partsV w.heap.size) ∧
    w' = ((w.alloc (.cells #[.string S] 9)).alloc (.cells #[.string ⟨#[46]⟩] 9)).alloc (.cells #[.int .i64 0] 3) := by
  go_enter Tryz.func58, Tryz.ntmps58
  go_wp2_with (go_at_call 86; refine (splitSeq_any _ _).mono ?_; rintro e w' ⟨rfl, rfl⟩)
  go_ret
  exact ⟨rfl, rfl⟩
section
variable {W W' : World} {row : Option Nat} {b B : Nat}
theorem heap_turnB {k : Nat} {c : Array Value} {e : TypeId} {f : Nat × Nat} (h : W.heap[k]? = some (.cells c e f)) (hg : W.grownBy W' row) (hk : k ≠ b)
    (hr : ∀ r, row = some r → r = b ∨ (B ≤ r ∧ ∃ o : Obj, W.heap[r]? = some o ∧ o.isCells = false)) : W'.heap[k]? = some (.cells c e f) := by
  refine (hg.block k (lt_of_block h) (fun e => ?_)).trans h
  rcases hr k e.symm with h' | ⟨_, o, ho, hc⟩
  · exact hk h'
  · rw [h] at ho; cases ho; simp [Obj.isCells] at hc
theorem Chg.turnB {w0 : World} (h : Chg [] w0 W) (hb : w0.heap.size ≤ b) (hB : w0.heap.size ≤ B) (hg : W.grownBy W' row)
    (hr : ∀ r, row = some r → r = b ∨ (B ≤ r ∧ ∃ o : Obj, W.heap[r]? = some o ∧ o.isCells = false)) : Chg [] w0 W' :=
  h.then (Chg.of_grownBy (L := row.toList) hg (fun k e => .inl (by simp [e]))) (fun i hi hlt => by
    rcases hr i (by simpa using hi) with h' | ⟨h', _⟩ <;> omega)
end

end Go.Proofs.YtjedikaidbobdaaGreatDoor
namespace Go.Proofs.YtjedikaidbobdaaGreatDoor
open Go.RowKit Go.Shelf
set_option linter.unusedVariables false
set_option linter.unusedSimpArgs false
def capC (c : UInt8) : Bool := (decide (65 ≤ c.toNat) && decide (c.toNat ≤ 90)) || (decide (48 ≤ c.toNat) && decide (c.toNat ≤ 57))
def digC (c : UInt8) : Bool := decide (48 ≤ c.toNat) && decide (c.toNat ≤ 57)
def partC (c : UInt8) : Bool := capC c || c == 64 || c == 35 || c == 36
def partOk (p : Bs) : Bool := decide (1 ≤ p.length) && decide (p.length ≤ 8) && !(digC (p.headD 0)) && p.all partC
def nameOk (s : Bs) : Bool := decide (s.length ≤ 44) && (splitAtC 46 s).all partOk
end Go.Proofs.YtjedikaidbobdaaGreatDoor
namespace Go.Proofs.YtjedikaidbobdaaGreatDoor
open Go.RowKit Go.Lib

theorem decode_low (s : ByteArray) (pos : Nat) (h : (s.get! pos).toNat < 128) : Utf8.decode s pos = ((s.get! pos).toNat, 1) := by
  unfold Utf8.decode
  simp only [Nat.add_zero]
  rw [if_pos h]
theorem decode_high (s : ByteArray) (pos : Nat) (h : 128 ≤ (s.get! pos).toNat) : 128 ≤ (Utf8.decode s pos).1 := by
  rw [decode_at]
  unfold decodeN
  repeat' split
  all_goals (simp only; omega)
theorem get_bang (s : ByteArray) (pos : Nat) (h : pos < s.size) : s.data.toList.drop pos = s.get! pos :: s.data.toList.drop (pos + 1) := by
  have hl : pos < s.data.toList.length := by simpa using h
  rw [List.drop_eq_getElem_cons hl]
  congr 1
  have : s.get! pos = s.data[pos]! := rfl
  rw [this, getElem!_pos s.data pos (by simpa using hl)]
  simp

theorem idx_from (p : Nat → Bool) (ok : UInt8 → Bool) (hp : ∀ c : UInt8, c.toNat < 128 → p c.toNat = !ok c) (hq : ∀ x, 128 ≤ x → p x = true) (hok : ∀ c, ok c = true → c.toNat < 128) (s : ByteArray) :
    ∀ (f pos : Nat), s.size ≤ pos + f → decide (0 ≤ idxFuncFrom p true s f pos) = !((s.data.toList.drop pos).all ok)
  | 0, pos, h => by
    rw [List.drop_of_length_le (by simpa using h)]; rfl
  | f + 1, pos, h => by
    unfold idxFuncFrom
    by_cases hl : pos < s.size
    · rw [if_pos hl, get_bang s pos hl, List.all_cons]
      by_cases hc : (s.get! pos).toNat < 128
      · rw [decode_low s pos hc]
        simp only
        rw [hp _ hc]
        cases ho : ok (s.get! pos)
        · simp
        · simp only [Bool.not_true, Bool.false_eq_true, if_false, Bool.true_and]
          exact idx_from p ok hp hq hok s f (pos + 1) (by omega)
      · rw [hq _ (decode_high s pos (by omega)), if_pos rfl]
        have : ok (s.get! pos) = false := by
          cases ho : ok (s.get! pos)
          · rfl
          · exact absurd (hok _ ho) hc
        rw [this]; simp
    · rw [if_neg hl, List.drop_of_length_le (by simp; omega)]; rfl
theorem idx_all (p : Nat → Bool) (ok : UInt8 → Bool) (hp : ∀ c : UInt8, c.toNat < 128 → p c.toNat = !ok c) (hq : ∀ x, 128 ≤ x → p x = true) (hok : ∀ c, ok c = true → c.toNat < 128) (s : ByteArray) :
    decide (0 ≤ idxFunc p true s) = !(s.data.toList.all ok) := by
  unfold idxFunc
  rw [idx_from p ok hp hq hok s s.size 0 (by omega)]; rfl

end Go.Proofs.YtjedikaidbobdaaGreatDoor
namespace Go.Proofs.YtjedikaidbobdaaGreatDoor
open Go.RowKit Go.Shelf
set_option linter.unusedVariables false
set_option linter.unusedSimpArgs false
def sgB (x : Nat) : Bool := x == 64 || x == 35 || x == 36
def capR (x : Nat) : Bool := (decide (65 ≤ x) && decide (x ≤ 90)) || (decide (48 ≤ x) && decide (x ≤ 57))
set_option maxHeartbeats 8000000 in
set_option maxRecDepth 4000 in
theorem serial1_spec (x : Nat) : Spec Tryz.prog 32 [.int .i32 (x : Int)] (.bool (!capR x)) := by
  rcases (by omega : x < 48 ∨ (48 ≤ x ∧ x ≤ 57) ∨ (57 < x ∧ x < 65) ∨ (65 ≤ x ∧ x ≤ 90) ∨ 90 < x) with h | h | h | h | h
  · have e0 : decide ((x : Int) < 65) = true := decide_eq_true (by omega)
    have e1 : decide ((90 : Int) < (x : Int)) = false := decide_eq_false (by omega)
    have e2 : decide ((x : Int) < 48) = true := decide_eq_true (by omega)
    have e3 : decide ((57 : Int) < (x : Int)) = false := decide_eq_false (by omega)
    have er : (!capR x) = true := by first | (subst h; rfl) | (unfold capR; simp; omega)
    rw [er]
    refine spec_of tt_ok Tryz.func32 rfl (by decide) Tryz.ntmps32 (congrArg Array.toList Tryz.results32) (by simp) (by decide) rfl rfl (fun F hF => ?_)
    refine vwp_seq_k fun Na hNa => vreg tt_ok hF rfl ?_; simp only [go_sem, Int.reduceEq, Int.reduceNe, Int.reduceLT, Int.reduceLE, Nat.reduceEqDiff, Nat.reduceAdd, Nat.reduceMul, Nat.reduceLT, Nat.reduceLeDiff, Nat.reduceSub, reduceCtorEq, reduceIte, Int.reduceToNat, beq_self_eq_true, Bool.and_self]
    refine hNa _ (VWp.keepR [0] [] tt_ok hF rfl fun Nb hNb => ?_); simp only [go_sem, Int.reduceEq, Int.reduceNe, Int.reduceLT, Int.reduceLE, Nat.reduceEqDiff, Nat.reduceAdd, Nat.reduceMul, Nat.reduceLT, Nat.reduceLeDiff, Nat.reduceSub, reduceCtorEq, reduceIte, Int.reduceToNat, beq_self_eq_true, Bool.and_self]
    simp only [e0, e1, e2, e3, go_sem, Int.reduceEq, Int.reduceNe, Int.reduceLT, Int.reduceLE, Nat.reduceEqDiff, Nat.reduceAdd, Nat.reduceMul, Nat.reduceLT, Nat.reduceLeDiff, Nat.reduceSub, reduceCtorEq, reduceIte, Int.reduceToNat, beq_self_eq_true, Bool.and_self]
    refine hNb _ (VWp.keep [2] [] ?_); simp only [go_sem, Int.reduceEq, Int.reduceNe, Int.reduceLT, Int.reduceLE, Nat.reduceEqDiff, Nat.reduceAdd, Nat.reduceMul, Nat.reduceLT, Nat.reduceLeDiff, Nat.reduceSub, reduceCtorEq, reduceIte, Int.reduceToNat, beq_self_eq_true, Bool.and_self]
    refine vwp_ret ?_
    simp only [go_sem, Int.reduceEq, Int.reduceNe, Int.reduceLT, Int.reduceLE, Nat.reduceEqDiff, Nat.reduceAdd, Nat.reduceMul, Nat.reduceLT, Nat.reduceLeDiff, Nat.reduceSub, reduceCtorEq, reduceIte, Int.reduceToNat, beq_self_eq_true, Bool.and_self]
    exact LeV.refl _
  · have e0 : decide ((x : Int) < 65) = true := decide_eq_true (by omega)
    have e1 : decide ((90 : Int) < (x : Int)) = false := decide_eq_false (by omega)
    have e2 : decide ((x : Int) < 48) = false := decide_eq_false (by omega)
    have e3 : decide ((57 : Int) < (x : Int)) = false := decide_eq_false (by omega)
    have er : (!capR x) = false := by first | (subst h; rfl) | (unfold capR; simp; omega)
    rw [er]
    refine spec_of tt_ok Tryz.func32 rfl (by decide) Tryz.ntmps32 (congrArg Array.toList Tryz.results32) (by simp) (by decide) rfl rfl (fun F hF => ?_)
    refine vwp_seq_k fun Na hNa => vreg tt_ok hF rfl ?_; simp only [go_sem, Int.reduceEq, Int.reduceNe, Int.reduceLT, Int.reduceLE, Nat.reduceEqDiff, Nat.reduceAdd, Nat.reduceMul, Nat.reduceLT, Nat.reduceLeDiff, Nat.reduceSub, reduceCtorEq, reduceIte, Int.reduceToNat, beq_self_eq_true, Bool.and_self]
    refine hNa _ (VWp.keepR [0] [] tt_ok hF rfl fun Nb hNb => ?_); simp only [go_sem, Int.reduceEq, Int.reduceNe, Int.reduceLT, Int.reduceLE, Nat.reduceEqDiff, Nat.reduceAdd, Nat.reduceMul, Nat.reduceLT, Nat.reduceLeDiff, Nat.reduceSub, reduceCtorEq, reduceIte, Int.reduceToNat, beq_self_eq_true, Bool.and_self]
    simp only [e0, e1, e2, e3, go_sem, Int.reduceEq, Int.reduceNe, Int.reduceLT, Int.reduceLE, Nat.reduceEqDiff, Nat.reduceAdd, Nat.reduceMul, Nat.reduceLT, Nat.reduceLeDiff, Nat.reduceSub, reduceCtorEq, reduceIte, Int.reduceToNat, beq_self_eq_true, Bool.and_self]
    refine hNb _ (VWp.keep [2] [] ?_); simp only [go_sem, Int.reduceEq, Int.reduceNe, Int.reduceLT, Int.reduceLE, Nat.reduceEqDiff, Nat.reduceAdd, Nat.reduceMul, Nat.reduceLT, Nat.reduceLeDiff, Nat.reduceSub, reduceCtorEq, reduceIte, Int.reduceToNat, beq_self_eq_true, Bool.and_self]
    refine vwp_ret ?_
    simp only [go_sem, Int.reduceEq, Int.reduceNe, Int.reduceLT, Int.reduceLE, Nat.reduceEqDiff, Nat.reduceAdd, Nat.reduceMul, Nat.reduceLT, Nat.reduceLeDiff, Nat.reduceSub, reduceCtorEq, reduceIte, Int.reduceToNat, beq_self_eq_true, Bool.and_self]
    exact LeV.refl _
  · have e0 : decide ((x : Int) < 65) = true := decide_eq_true (by omega)
    have e1 : decide ((90 : Int) < (x : Int)) = false := decide_eq_false (by omega)
    have e2 : decide ((x : Int) < 48) = false := decide_eq_false (by omega)
    have e3 : decide ((57 : Int) < (x : Int)) = true := decide_eq_true (by omega)
    have er : (!capR x) = true := by first | (subst h; rfl) | (unfold capR; simp; omega)
    rw [er]
    refine spec_of tt_ok Tryz.func32 rfl (by decide) Tryz.ntmps32 (congrArg Array.toList Tryz.results32) (by simp) (by decide) rfl rfl (fun F hF => ?_)
    refine vwp_seq_k fun Na hNa => vreg tt_ok hF rfl ?_; simp only [go_sem, Int.reduceEq, Int.reduceNe, Int.reduceLT, Int.reduceLE, Nat.reduceEqDiff, Nat.reduceAdd, Nat.reduceMul, Nat.reduceLT, Nat.reduceLeDiff, Nat.reduceSub, reduceCtorEq, reduceIte, Int.reduceToNat, beq_self_eq_true, Bool.and_self]
    refine hNa _ (VWp.keepR [0] [] tt_ok hF rfl fun Nb hNb => ?_); simp only [go_sem, Int.reduceEq, Int.reduceNe, Int.reduceLT, Int.reduceLE, Nat.reduceEqDiff, Nat.reduceAdd, Nat.reduceMul, Nat.reduceLT, Nat.reduceLeDiff, Nat.reduceSub, reduceCtorEq, reduceIte, Int.reduceToNat, beq_self_eq_true, Bool.and_self]
    simp only [e0, e1, e2, e3, go_sem, Int.reduceEq, Int.reduceNe, Int.reduceLT, Int.reduceLE, Nat.reduceEqDiff, Nat.reduceAdd, Nat.reduceMul, Nat.reduceLT, Nat.reduceLeDiff, Nat.reduceSub, reduceCtorEq, reduceIte, Int.reduceToNat, beq_self_eq_true, Bool.and_self]
    refine hNb _ (VWp.keep [2] [] ?_); simp only [go_sem, Int.reduceEq, Int.reduceNe, Int.reduceLT, Int.reduceLE, Nat.reduceEqDiff, Nat.reduceAdd, Nat.reduceMul, Nat.reduceLT, Nat.reduceLeDiff, Nat.reduceSub, reduceCtorEq, reduceIte, Int.reduceToNat, beq_self_eq_true, Bool.and_self]
    refine vwp_ret ?_
    simp only [go_sem, Int.reduceEq, Int.reduceNe, Int.reduceLT, Int.reduceLE, Nat.reduceEqDiff, Nat.reduceAdd, Nat.reduceMul, Nat.reduceLT, Nat.reduceLeDiff, Nat.reduceSub, reduceCtorEq, reduceIte, Int.reduceToNat, beq_self_eq_true, Bool.and_self]
    exact LeV.refl _
  · have e0 : decide ((x : Int) < 65) = false := decide_eq_false (by omega)
    have e1 : decide ((90 : Int) < (x : Int)) = false := decide_eq_false (by omega)
    have e2 : decide ((x : Int) < 48) = false := decide_eq_false (by omega)
    have e3 : decide ((57 : Int) < (x : Int)) = true := decide_eq_true (by omega)
    have er : (!capR x) = false := by first | (subst h; rfl) | (unfold capR; simp; omega)
    rw [er]
    refine spec_of tt_ok Tryz.func32 rfl (by decide) Tryz.ntmps32 (congrArg Array.toList Tryz.results32) (by simp) (by decide) rfl rfl (fun F hF => ?_)
    refine vwp_seq_k fun Na hNa => vreg tt_ok hF rfl ?_; simp only [go_sem, Int.reduceEq, Int.reduceNe, Int.reduceLT, Int.reduceLE, Nat.reduceEqDiff, Nat.reduceAdd, Nat.reduceMul, Nat.reduceLT, Nat.reduceLeDiff, Nat.reduceSub, reduceCtorEq, reduceIte, Int.reduceToNat, beq_self_eq_true, Bool.and_self]
    refine hNa _ (VWp.keepR [0] [] tt_ok hF rfl fun Nb hNb => ?_); simp only [go_sem, Int.reduceEq, Int.reduceNe, Int.reduceLT, Int.reduceLE, Nat.reduceEqDiff, Nat.reduceAdd, Nat.reduceMul, Nat.reduceLT, Nat.reduceLeDiff, Nat.reduceSub, reduceCtorEq, reduceIte, Int.reduceToNat, beq_self_eq_true, Bool.and_self]
    simp only [e0, e1, e2, e3, go_sem, Int.reduceEq, Int.reduceNe, Int.reduceLT, Int.reduceLE, Nat.reduceEqDiff, Nat.reduceAdd, Nat.reduceMul, Nat.reduceLT, Nat.reduceLeDiff, Nat.reduceSub, reduceCtorEq, reduceIte, Int.reduceToNat, beq_self_eq_true, Bool.and_self]
    refine hNb _ (VWp.keep [2] [] ?_); simp only [go_sem, Int.reduceEq, Int.reduceNe, Int.reduceLT, Int.reduceLE, Nat.reduceEqDiff, Nat.reduceAdd, Nat.reduceMul, Nat.reduceLT, Nat.reduceLeDiff, Nat.reduceSub, reduceCtorEq, reduceIte, Int.reduceToNat, beq_self_eq_true, Bool.and_self]
    refine vwp_ret ?_
    simp only [go_sem, Int.reduceEq, Int.reduceNe, Int.reduceLT, Int.reduceLE, Nat.reduceEqDiff, Nat.reduceAdd, Nat.reduceMul, Nat.reduceLT, Nat.reduceLeDiff, Nat.reduceSub, reduceCtorEq, reduceIte, Int.reduceToNat, beq_self_eq_true, Bool.and_self]
    exact LeV.refl _
  · have e0 : decide ((x : Int) < 65) = false := decide_eq_false (by omega)
    have e1 : decide ((90 : Int) < (x : Int)) = true := decide_eq_true (by omega)
    have e2 : decide ((x : Int) < 48) = false := decide_eq_false (by omega)
    have e3 : decide ((57 : Int) < (x : Int)) = true := decide_eq_true (by omega)
    have er : (!capR x) = true := by first | (subst h; rfl) | (unfold capR; simp; omega)
    rw [er]
    refine spec_of tt_ok Tryz.func32 rfl (by decide) Tryz.ntmps32 (congrArg Array.toList Tryz.results32) (by simp) (by decide) rfl rfl (fun F hF => ?_)
    refine vwp_seq_k fun Na hNa => vreg tt_ok hF rfl ?_; simp only [go_sem, Int.reduceEq, Int.reduceNe, Int.reduceLT, Int.reduceLE, Nat.reduceEqDiff, Nat.reduceAdd, Nat.reduceMul, Nat.reduceLT, Nat.reduceLeDiff, Nat.reduceSub, reduceCtorEq, reduceIte, Int.reduceToNat, beq_self_eq_true, Bool.and_self]
    refine hNa _ (VWp.keepR [0] [] tt_ok hF rfl fun Nb hNb => ?_); simp only [go_sem, Int.reduceEq, Int.reduceNe, Int.reduceLT, Int.reduceLE, Nat.reduceEqDiff, Nat.reduceAdd, Nat.reduceMul, Nat.reduceLT, Nat.reduceLeDiff, Nat.reduceSub, reduceCtorEq, reduceIte, Int.reduceToNat, beq_self_eq_true, Bool.and_self]
    simp only [e0, e1, e2, e3, go_sem, Int.reduceEq, Int.reduceNe, Int.reduceLT, Int.reduceLE, Nat.reduceEqDiff, Nat.reduceAdd, Nat.reduceMul, Nat.reduceLT, Nat.reduceLeDiff, Nat.reduceSub, reduceCtorEq, reduceIte, Int.reduceToNat, beq_self_eq_true, Bool.and_self]
    refine hNb _ (VWp.keep [2] [] ?_); simp only [go_sem, Int.reduceEq, Int.reduceNe, Int.reduceLT, Int.reduceLE, Nat.reduceEqDiff, Nat.reduceAdd, Nat.reduceMul, Nat.reduceLT, Nat.reduceLeDiff, Nat.reduceSub, reduceCtorEq, reduceIte, Int.reduceToNat, beq_self_eq_true, Bool.and_self]
    refine vwp_ret ?_
    simp only [go_sem, Int.reduceEq, Int.reduceNe, Int.reduceLT, Int.reduceLE, Nat.reduceEqDiff, Nat.reduceAdd, Nat.reduceMul, Nat.reduceLT, Nat.reduceLeDiff, Nat.reduceSub, reduceCtorEq, reduceIte, Int.reduceToNat, beq_self_eq_true, Bool.and_self]
    exact LeV.refl _
set_option maxHeartbeats 8000000 in
set_option maxRecDepth 4000 in
theorem name1_spec (x : Nat) : Spec Tryz.prog 59 [.int .i32 (x : Int)] (.bool (!(capR x || sgB x))) := by
  rcases (by omega : x < 35 ∨ x = 35 ∨ x = 36 ∨ (36 < x ∧ x < 48) ∨ (48 ≤ x ∧ x ≤ 57) ∨ (57 < x ∧ x < 64) ∨ x = 64 ∨ (65 ≤ x ∧ x ≤ 90) ∨ 90 < x) with h | h | h | h | h | h | h | h | h
  · have e0 : decide ((x : Int) < 65) = true := decide_eq_true (by omega)
    have e1 : decide ((90 : Int) < (x : Int)) = false := decide_eq_false (by omega)
    have e2 : decide ((x : Int) < 48) = true := decide_eq_true (by omega)
    have e3 : decide ((57 : Int) < (x : Int)) = false := decide_eq_false (by omega)
    have e4 : decide ((x : Int) = 64) = false := decide_eq_false (by omega)
    have e5 : decide ((x : Int) = 35) = false := decide_eq_false (by omega)
    have e6 : decide ((x : Int) = 36) = false := decide_eq_false (by omega)
    have er : (!(capR x || sgB x)) = true := by first | (subst h; rfl) | (unfold capR sgB; simp; omega)
    rw [er]
    refine spec_of tt_ok Tryz.func59 rfl (by decide) Tryz.ntmps59 (congrArg Array.toList Tryz.results59) (by simp) (by decide) rfl rfl (fun F hF => ?_)
    refine vwp_seq_k fun Na hNa => vreg tt_ok hF rfl ?_; simp only [go_sem, Int.reduceEq, Int.reduceNe, Int.reduceLT, Int.reduceLE, Nat.reduceEqDiff, Nat.reduceAdd, Nat.reduceMul, Nat.reduceLT, Nat.reduceLeDiff, Nat.reduceSub, reduceCtorEq, reduceIte, Int.reduceToNat, beq_self_eq_true, Bool.and_self]
    refine hNa _ (VWp.keepR [0] [] tt_ok hF rfl fun Nb hNb => ?_); simp only [go_sem, Int.reduceEq, Int.reduceNe, Int.reduceLT, Int.reduceLE, Nat.reduceEqDiff, Nat.reduceAdd, Nat.reduceMul, Nat.reduceLT, Nat.reduceLeDiff, Nat.reduceSub, reduceCtorEq, reduceIte, Int.reduceToNat, beq_self_eq_true, Bool.and_self]
    simp only [e0, e1, e2, e3, e4, e5, e6, go_sem, Int.reduceEq, Int.reduceNe, Int.reduceLT, Int.reduceLE, Nat.reduceEqDiff, Nat.reduceAdd, Nat.reduceMul, Nat.reduceLT, Nat.reduceLeDiff, Nat.reduceSub, reduceCtorEq, reduceIte, Int.reduceToNat, beq_self_eq_true, Bool.and_self]
    refine hNb _ (VWp.keep [2] [] ?_); simp only [go_sem, Int.reduceEq, Int.reduceNe, Int.reduceLT, Int.reduceLE, Nat.reduceEqDiff, Nat.reduceAdd, Nat.reduceMul, Nat.reduceLT, Nat.reduceLeDiff, Nat.reduceSub, reduceCtorEq, reduceIte, Int.reduceToNat, beq_self_eq_true, Bool.and_self]
    refine vwp_ret ?_
    simp only [go_sem, Int.reduceEq, Int.reduceNe, Int.reduceLT, Int.reduceLE, Nat.reduceEqDiff, Nat.reduceAdd, Nat.reduceMul, Nat.reduceLT, Nat.reduceLeDiff, Nat.reduceSub, reduceCtorEq, reduceIte, Int.reduceToNat, beq_self_eq_true, Bool.and_self]
    exact LeV.refl _
  · have e0 : decide ((x : Int) < 65) = true := decide_eq_true (by omega)
    have e1 : decide ((90 : Int) < (x : Int)) = false := decide_eq_false (by omega)
    have e2 : decide ((x : Int) < 48) = true := decide_eq_true (by omega)
    have e3 : decide ((57 : Int) < (x : Int)) = false := decide_eq_false (by omega)
    have e4 : decide ((x : Int) = 64) = false := decide_eq_false (by omega)
    have e5 : decide ((x : Int) = 35) = true := decide_eq_true (by omega)
    have e6 : decide ((x : Int) = 36) = false := decide_eq_false (by omega)
    have er : (!(capR x || sgB x)) = false := by first | (subst h; rfl) | (unfold capR sgB; simp; omega)
    rw [er]
    refine spec_of tt_ok Tryz.func59 rfl (by decide) Tryz.ntmps59 (congrArg Array.toList Tryz.results59) (by simp) (by decide) rfl rfl (fun F hF => ?_)
    refine vwp_seq_k fun Na hNa => vreg tt_ok hF rfl ?_; simp only [go_sem, Int.reduceEq, Int.reduceNe, Int.reduceLT, Int.reduceLE, Nat.reduceEqDiff, Nat.reduceAdd, Nat.reduceMul, Nat.reduceLT, Nat.reduceLeDiff, Nat.reduceSub, reduceCtorEq, reduceIte, Int.reduceToNat, beq_self_eq_true, Bool.and_self]
    refine hNa _ (VWp.keepR [0] [] tt_ok hF rfl fun Nb hNb => ?_); simp only [go_sem, Int.reduceEq, Int.reduceNe, Int.reduceLT, Int.reduceLE, Nat.reduceEqDiff, Nat.reduceAdd, Nat.reduceMul, Nat.reduceLT, Nat.reduceLeDiff, Nat.reduceSub, reduceCtorEq, reduceIte, Int.reduceToNat, beq_self_eq_true, Bool.and_self]
    simp only [e0, e1, e2, e3, e4, e5, e6, go_sem, Int.reduceEq, Int.reduceNe, Int.reduceLT, Int.reduceLE, Nat.reduceEqDiff, Nat.reduceAdd, Nat.reduceMul, Nat.reduceLT, Nat.reduceLeDiff, Nat.reduceSub, reduceCtorEq, reduceIte, Int.reduceToNat, beq_self_eq_true, Bool.and_self]
    refine hNb _ (VWp.keep [2] [] ?_); simp only [go_sem, Int.reduceEq, Int.reduceNe, Int.reduceLT, Int.reduceLE, Nat.reduceEqDiff, Nat.reduceAdd, Nat.reduceMul, Nat.reduceLT, Nat.reduceLeDiff, Nat.reduceSub, reduceCtorEq, reduceIte, Int.reduceToNat, beq_self_eq_true, Bool.and_self]
    refine vwp_ret ?_
    simp only [go_sem, Int.reduceEq, Int.reduceNe, Int.reduceLT, Int.reduceLE, Nat.reduceEqDiff, Nat.reduceAdd, Nat.reduceMul, Nat.reduceLT, Nat.reduceLeDiff, Nat.reduceSub, reduceCtorEq, reduceIte, Int.reduceToNat, beq_self_eq_true, Bool.and_self]
    exact LeV.refl _
  · have e0 : decide ((x : Int) < 65) = true := decide_eq_true (by omega)
    have e1 : decide ((90 : Int) < (x : Int)) = false := decide_eq_false (by omega)
    have e2 : decide ((x : Int) < 48) = true := decide_eq_true (by omega)
    have e3 : decide ((57 : Int) < (x : Int)) = false := decide_eq_false (by omega)
    have e4 : decide ((x : Int) = 64) = false := decide_eq_false (by omega)
    have e5 : decide ((x : Int) = 35) = false := decide_eq_false (by omega)
    have e6 : decide ((x : Int) = 36) = true := decide_eq_true (by omega)
    have er : (!(capR x || sgB x)) = false := by first | (subst h; rfl) | (unfold capR sgB; simp; omega)
    rw [er]
    refine spec_of tt_ok Tryz.func59 rfl (by decide) Tryz.ntmps59 (congrArg Array.toList Tryz.results59) (by simp) (by decide) rfl rfl (fun F hF => ?_)
    refine vwp_seq_k fun Na hNa => vreg tt_ok hF rfl ?_; simp only [go_sem, Int.reduceEq, Int.reduceNe, Int.reduceLT, Int.reduceLE, Nat.reduceEqDiff, Nat.reduceAdd, Nat.reduceMul, Nat.reduceLT, Nat.reduceLeDiff, Nat.reduceSub, reduceCtorEq, reduceIte, Int.reduceToNat, beq_self_eq_true, Bool.and_self]
    refine hNa _ (VWp.keepR [0] [] tt_ok hF rfl fun Nb hNb => ?_); simp only [go_sem, Int.reduceEq, Int.reduceNe, Int.reduceLT, Int.reduceLE, Nat.reduceEqDiff, Nat.reduceAdd, Nat.reduceMul, Nat.reduceLT, Nat.reduceLeDiff, Nat.reduceSub, reduceCtorEq, reduceIte, Int.reduceToNat, beq_self_eq_true, Bool.and_self]
    simp only [e0, e1, e2, e3, e4, e5, e6, go_sem, Int.reduceEq, Int.reduceNe, Int.reduceLT, Int.reduceLE, Nat.reduceEqDiff, Nat.reduceAdd, Nat.reduceMul, Nat.reduceLT, Nat.reduceLeDiff, Nat.reduceSub, reduceCtorEq, reduceIte, Int.reduceToNat, beq_self_eq_true, Bool.and_self]
    refine hNb _ (VWp.keep [2] [] ?_); simp only [go_sem, Int.reduceEq, Int.reduceNe, Int.reduceLT, Int.reduceLE, Nat.reduceEqDiff, Nat.reduceAdd, Nat.reduceMul, Nat.reduceLT, Nat.reduceLeDiff, Nat.reduceSub, reduceCtorEq, reduceIte, Int.reduceToNat, beq_self_eq_true, Bool.and_self]
    refine vwp_ret ?_
    simp only [go_sem, Int.reduceEq, Int.reduceNe, Int.reduceLT, Int.reduceLE, Nat.reduceEqDiff, Nat.reduceAdd, Nat.reduceMul, Nat.reduceLT, Nat.reduceLeDiff, Nat.reduceSub, reduceCtorEq, reduceIte, Int.reduceToNat, beq_self_eq_true, Bool.and_self]
    exact LeV.refl _
  · have e0 : decide ((x : Int) < 65) = true := decide_eq_true (by omega)
    have e1 : decide ((90 : Int) < (x : Int)) = false := decide_eq_false (by omega)
    have e2 : decide ((x : Int) < 48) = true := decide_eq_true (by omega)
    have e3 : decide ((57 : Int) < (x : Int)) = false := decide_eq_false (by omega)
    have e4 : decide ((x : Int) = 64) = false := decide_eq_false (by omega)
    have e5 : decide ((x : Int) = 35) = false := decide_eq_false (by omega)
    have e6 : decide ((x : Int) = 36) = false := decide_eq_false (by omega)
    have er : (!(capR x || sgB x)) = true := by first | (subst h; rfl) | (unfold capR sgB; simp; omega)
    rw [er]
    refine spec_of tt_ok Tryz.func59 rfl (by decide) Tryz.ntmps59 (congrArg Array.toList Tryz.results59) (by simp) (by decide) rfl rfl (fun F hF => ?_)
    refine vwp_seq_k fun Na hNa => vreg tt_ok hF rfl ?_; simp only [go_sem, Int.reduceEq, Int.reduceNe, Int.reduceLT, Int.reduceLE, Nat.reduceEqDiff, Nat.reduceAdd, Nat.reduceMul, Nat.reduceLT, Nat.reduceLeDiff, Nat.reduceSub, reduceCtorEq, reduceIte, Int.reduceToNat, beq_self_eq_true, Bool.and_self]
    refine hNa _ (VWp.keepR [0] [] tt_ok hF rfl fun Nb hNb => ?_); simp only [go_sem, Int.reduceEq, Int.reduceNe, Int.reduceLT, Int.reduceLE, Nat.reduceEqDiff, Nat.reduceAdd, Nat.reduceMul, Nat.reduceLT, Nat.reduceLeDiff, Nat.reduceSub, reduceCtorEq, reduceIte, Int.reduceToNat, beq_self_eq_true, Bool.and_self]
    simp only [e0, e1, e2, e3, e4, e5, e6, go_sem, Int.reduceEq, Int.reduceNe, Int.reduceLT, Int.reduceLE, Nat.reduceEqDiff, Nat.reduceAdd, Nat.reduceMul, Nat.reduceLT, Nat.reduceLeDiff, Nat.reduceSub, reduceCtorEq, reduceIte, Int.reduceToNat, beq_self_eq_true, Bool.and_self]
    refine hNb _ (VWp.keep [2] [] ?_); simp only [go_sem, Int.reduceEq, Int.reduceNe, Int.reduceLT, Int.reduceLE, Nat.reduceEqDiff, Nat.reduceAdd, Nat.reduceMul, Nat.reduceLT, Nat.reduceLeDiff, Nat.reduceSub, reduceCtorEq, reduceIte, Int.reduceToNat, beq_self_eq_true, Bool.and_self]
    refine vwp_ret ?_
    simp only [go_sem, Int.reduceEq, Int.reduceNe, Int.reduceLT, Int.reduceLE, Nat.reduceEqDiff, Nat.reduceAdd, Nat.reduceMul, Nat.reduceLT, Nat.reduceLeDiff, Nat.reduceSub, reduceCtorEq, reduceIte, Int.reduceToNat, beq_self_eq_true, Bool.and_self]
    exact LeV.refl _
  · have e0 : decide ((x : Int) < 65) = true := decide_eq_true (by omega)
    have e1 : decide ((90 : Int) < (x : Int)) = false := decide_eq_false (by omega)
    have e2 : decide ((x : Int) < 48) = false := decide_eq_false (by omega)
    have e3 : decide ((57 : Int) < (x : Int)) = false := decide_eq_false (by omega)
    have e4 : decide ((x : Int) = 64) = false := decide_eq_false (by omega)
    have e5 : decide ((x : Int) = 35) = false := decide_eq_false (by omega)
    have e6 : decide ((x : Int) = 36) = false := decide_eq_false (by omega)
    have er : (!(capR x || sgB x)) = false := by first | (subst h; rfl) | (unfold capR sgB; simp; omega)
    rw [er]
    refine spec_of tt_ok Tryz.func59 rfl (by decide) Tryz.ntmps59 (congrArg Array.toList Tryz.results59) (by simp) (by decide) rfl rfl (fun F hF => ?_)
    refine vwp_seq_k fun Na hNa => vreg tt_ok hF rfl ?_; simp only [go_sem, Int.reduceEq, Int.reduceNe, Int.reduceLT, Int.reduceLE, Nat.reduceEqDiff, Nat.reduceAdd, Nat.reduceMul, Nat.reduceLT, Nat.reduceLeDiff, Nat.reduceSub, reduceCtorEq, reduceIte, Int.reduceToNat, beq_self_eq_true, Bool.and_self]
    refine hNa _ (VWp.keepR [0] [] tt_ok hF rfl fun Nb hNb => ?_); simp only [go_sem, Int.reduceEq, Int.reduceNe, Int.reduceLT, Int.reduceLE, Nat.reduceEqDiff, Nat.reduceAdd, Nat.reduceMul, Nat.reduceLT, Nat.reduceLeDiff, Nat.reduceSub, reduceCtorEq, reduceIte, Int.reduceToNat, beq_self_eq_true, Bool.and_self]
    simp only [e0, e1, e2, e3, e4, e5, e6, go_sem, Int.reduceEq, Int.reduceNe, Int.reduceLT, Int.reduceLE, Nat.reduceEqDiff, Nat.reduceAdd, Nat.reduceMul, Nat.reduceLT, Nat.reduceLeDiff, Nat.reduceSub, reduceCtorEq, reduceIte, Int.reduceToNat, beq_self_eq_true, Bool.and_self]
    refine hNb _ (VWp.keep [2] [] ?_); simp only [go_sem, Int.reduceEq, Int.reduceNe, Int.reduceLT, Int.reduceLE, Nat.reduceEqDiff, Nat.reduceAdd, Nat.reduceMul, Nat.reduceLT, Nat.reduceLeDiff, Nat.reduceSub, reduceCtorEq, reduceIte, Int.reduceToNat, beq_self_eq_true, Bool.and_self]
    refine vwp_ret ?_
    simp only [go_sem, Int.reduceEq, Int.reduceNe, Int.reduceLT, Int.reduceLE, Nat.reduceEqDiff, Nat.reduceAdd, Nat.reduceMul, Nat.reduceLT, Nat.reduceLeDiff, Nat.reduceSub, reduceCtorEq, reduceIte, Int.reduceToNat, beq_self_eq_true, Bool.and_self]
    exact LeV.refl _
  · have e0 : decide ((x : Int) < 65) = true := decide_eq_true (by omega)
    have e1 : decide ((90 : Int) < (x : Int)) = false := decide_eq_false (by omega)
    have e2 : decide ((x : Int) < 48) = false := decide_eq_false (by omega)
    have e3 : decide ((57 : Int) < (x : Int)) = true := decide_eq_true (by omega)
    have e4 : decide ((x : Int) = 64) = false := decide_eq_false (by omega)
    have e5 : decide ((x : Int) = 35) = false := decide_eq_false (by omega)
    have e6 : decide ((x : Int) = 36) = false := decide_eq_false (by omega)
    have er : (!(capR x || sgB x)) = true := by first | (subst h; rfl) | (unfold capR sgB; simp; omega)
    rw [er]
    refine spec_of tt_ok Tryz.func59 rfl (by decide) Tryz.ntmps59 (congrArg Array.toList Tryz.results59) (by simp) (by decide) rfl rfl (fun F hF => ?_)
    refine vwp_seq_k fun Na hNa => vreg tt_ok hF rfl ?_; simp only [go_sem, Int.reduceEq, Int.reduceNe, Int.reduceLT, Int.reduceLE, Nat.reduceEqDiff, Nat.reduceAdd, Nat.reduceMul, Nat.reduceLT, Nat.reduceLeDiff, Nat.reduceSub, reduceCtorEq, reduceIte, Int.reduceToNat, beq_self_eq_true, Bool.and_self]
    refine hNa _ (VWp.keepR [0] [] tt_ok hF rfl fun Nb hNb => ?_); simp only [go_sem, Int.reduceEq, Int.reduceNe, Int.reduceLT, Int.reduceLE, Nat.reduceEqDiff, Nat.reduceAdd, Nat.reduceMul, Nat.reduceLT, Nat.reduceLeDiff, Nat.reduceSub, reduceCtorEq, reduceIte, Int.reduceToNat, beq_self_eq_true, Bool.and_self]
    simp only [e0, e1, e2, e3, e4, e5, e6, go_sem, Int.reduceEq, Int.reduceNe, Int.reduceLT, Int.reduceLE, Nat.reduceEqDiff, Nat.reduceAdd, Nat.reduceMul, Nat.reduceLT, Nat.reduceLeDiff, Nat.reduceSub, reduceCtorEq, reduceIte, Int.reduceToNat, beq_self_eq_true, Bool.and_self]
    refine hNb _ (VWp.keep [2] [] ?_); simp only [go_sem, Int.reduceEq, Int.reduceNe, Int.reduceLT, Int.reduceLE, Nat.reduceEqDiff, Nat.reduceAdd, Nat.reduceMul, Nat.reduceLT, Nat.reduceLeDiff, Nat.reduceSub, reduceCtorEq, reduceIte, Int.reduceToNat, beq_self_eq_true, Bool.and_self]
    refine vwp_ret ?_
    simp only [go_sem, Int.reduceEq, Int.reduceNe, Int.reduceLT, Int.reduceLE, Nat.reduceEqDiff, Nat.reduceAdd, Nat.reduceMul, Nat.reduceLT, Nat.reduceLeDiff, Nat.reduceSub, reduceCtorEq, reduceIte, Int.reduceToNat, beq_self_eq_true, Bool.and_self]
    exact LeV.refl _
  · have e0 : decide ((x : Int) < 65) = true := decide_eq_true (by omega)
    have e1 : decide ((90 : Int) < (x : Int)) = false := decide_eq_false (by omega)
    have e2 : decide ((x : Int) < 48) = false := decide_eq_false (by omega)
    have e3 : decide ((57 : Int) < (x : Int)) = true := decide_eq_true (by omega)
    have e4 : decide ((x : Int) = 64) = true := decide_eq_true (by omega)
    have e5 : decide ((x : Int) = 35) = false := decide_eq_false (by omega)
    have e6 : decide ((x : Int) = 36) = false := decide_eq_false (by omega)
    have er : (!(capR x || sgB x)) = false := by first | (subst h; rfl) | (unfold capR sgB; simp; omega)
    rw [er]
    refine spec_of tt_ok Tryz.func59 rfl (by decide) Tryz.ntmps59 (congrArg Array.toList Tryz.results59) (by simp) (by decide) rfl rfl (fun F hF => ?_)
    refine vwp_seq_k fun Na hNa => vreg tt_ok hF rfl ?_; simp only [go_sem, Int.reduceEq, Int.reduceNe, Int.reduceLT, Int.reduceLE, Nat.reduceEqDiff, Nat.reduceAdd, Nat.reduceMul, Nat.reduceLT, Nat.reduceLeDiff, Nat.reduceSub, reduceCtorEq, reduceIte, Int.reduceToNat, beq_self_eq_true, Bool.and_self]
    refine hNa _ (VWp.keepR [0] [] tt_ok hF rfl fun Nb hNb => ?_); simp only [go_sem, Int.reduceEq, Int.reduceNe, Int.reduceLT, Int.reduceLE, Nat.reduceEqDiff, Nat.reduceAdd, Nat.reduceMul, Nat.reduceLT, Nat.reduceLeDiff, Nat.reduceSub, reduceCtorEq, reduceIte, Int.reduceToNat, beq_self_eq_true, Bool.and_self]
    simp only [e0, e1, e2, e3, e4, e5, e6, go_sem, Int.reduceEq, Int.reduceNe, Int.reduceLT, Int.reduceLE, Nat.reduceEqDiff, Nat.reduceAdd, Nat.reduceMul, Nat.reduceLT, Nat.reduceLeDiff, Nat.reduceSub, reduceCtorEq, reduceIte, Int.reduceToNat, beq_self_eq_true, Bool.and_self]
    refine hNb _ (VWp.keep [2] [] ?_); simp only [go_sem, Int.reduceEq, Int.reduceNe, Int.reduceLT, Int.reduceLE, Nat.reduceEqDiff, Nat.reduceAdd, Nat.reduceMul, Nat.reduceLT, Nat.reduceLeDiff, Nat.reduceSub, reduceCtorEq, reduceIte, Int.reduceToNat, beq_self_eq_true, Bool.and_self]
    refine vwp_ret ?_
    simp only [go_sem, Int.reduceEq, Int.reduceNe, Int.reduceLT, Int.reduceLE, Nat.reduceEqDiff, Nat.reduceAdd, Nat.reduceMul, Nat.reduceLT, Nat.reduceLeDiff, Nat.reduceSub, reduceCtorEq, reduceIte, Int.reduceToNat, beq_self_eq_true, Bool.and_self]
    exact LeV.refl _
  · have e0 : decide ((x : Int) < 65) = false := decide_eq_false (by omega)
    have e1 : decide ((90 : Int) < (x : Int)) = false := decide_eq_false (by omega)
    have e2 : decide ((x : Int) < 48) = false := decide_eq_false (by omega)
    have e3 : decide ((57 : Int) < (x : Int)) = true := decide_eq_true (by omega)
    have e4 : decide ((x : Int) = 64) = false := decide_eq_false (by omega)
    have e5 : decide ((x : Int) = 35) = false := decide_eq_false (by omega)
    have e6 : decide ((x : Int) = 36) = false := decide_eq_false (by omega)
    have er : (!(capR x || sgB x)) = false := by first | (subst h; rfl) | (unfold capR sgB; simp; omega)
    rw [er]
    refine spec_of tt_ok Tryz.func59 rfl (by decide) Tryz.ntmps59 (congrArg Array.toList Tryz.results59) (by simp) (by decide) rfl rfl (fun F hF => ?_)
    refine vwp_seq_k fun Na hNa => vreg tt_ok hF rfl ?_; simp only [go_sem, Int.reduceEq, Int.reduceNe, Int.reduceLT, Int.reduceLE, Nat.reduceEqDiff, Nat.reduceAdd, Nat.reduceMul, Nat.reduceLT, Nat.reduceLeDiff, Nat.reduceSub, reduceCtorEq, reduceIte, Int.reduceToNat, beq_self_eq_true, Bool.and_self]
    refine hNa _ (VWp.keepR [0] [] tt_ok hF rfl fun Nb hNb => ?_); simp only [go_sem, Int.reduceEq, Int.reduceNe, Int.reduceLT, Int.reduceLE, Nat.reduceEqDiff, Nat.reduceAdd, Nat.reduceMul, Nat.reduceLT, Nat.reduceLeDiff, Nat.reduceSub, reduceCtorEq, reduceIte, Int.reduceToNat, beq_self_eq_true, Bool.and_self]
    simp only [e0, e1, e2, e3, e4, e5, e6, go_sem, Int.reduceEq, Int.reduceNe, Int.reduceLT, Int.reduceLE, Nat.reduceEqDiff, Nat.reduceAdd, Nat.reduceMul, Nat.reduceLT, Nat.reduceLeDiff, Nat.reduceSub, reduceCtorEq, reduceIte, Int.reduceToNat, beq_self_eq_true, Bool.and_self]
    refine hNb _ (VWp.keep [2] [] ?_); simp only [go_sem, Int.reduceEq, Int.reduceNe, Int.reduceLT, Int.reduceLE, Nat.reduceEqDiff, Nat.reduceAdd, Nat.reduceMul, Nat.reduceLT, Nat.reduceLeDiff, Nat.reduceSub, reduceCtorEq, reduceIte, Int.reduceToNat, beq_self_eq_true, Bool.and_self]
    refine vwp_ret ?_
    simp only [go_sem, Int.reduceEq, Int.reduceNe, Int.reduceLT, Int.reduceLE, Nat.reduceEqDiff, Nat.reduceAdd, Nat.reduceMul, Nat.reduceLT, Nat.reduceLeDiff, Nat.reduceSub, reduceCtorEq, reduceIte, Int.reduceToNat, beq_self_eq_true, Bool.and_self]
    exact LeV.refl _
  · have e0 : decide ((x : Int) < 65) = false := decide_eq_false (by omega)
    have e1 : decide ((90 : Int) < (x : Int)) = true := decide_eq_true (by omega)
    have e2 : decide ((x : Int) < 48) = false := decide_eq_false (by omega)
    have e3 : decide ((57 : Int) < (x : Int)) = true := decide_eq_true (by omega)
    have e4 : decide ((x : Int) = 64) = false := decide_eq_false (by omega)
    have e5 : decide ((x : Int) = 35) = false := decide_eq_false (by omega)
    have e6 : decide ((x : Int) = 36) = false := decide_eq_false (by omega)
    have er : (!(capR x || sgB x)) = true := by first | (subst h; rfl) | (unfold capR sgB; simp; omega)
    rw [er]
    refine spec_of tt_ok Tryz.func59 rfl (by decide) Tryz.ntmps59 (congrArg Array.toList Tryz.results59) (by simp) (by decide) rfl rfl (fun F hF => ?_)
    refine vwp_seq_k fun Na hNa => vreg tt_ok hF rfl ?_; simp only [go_sem, Int.reduceEq, Int.reduceNe, Int.reduceLT, Int.reduceLE, Nat.reduceEqDiff, Nat.reduceAdd, Nat.reduceMul, Nat.reduceLT, Nat.reduceLeDiff, Nat.reduceSub, reduceCtorEq, reduceIte, Int.reduceToNat, beq_self_eq_true, Bool.and_self]
    refine hNa _ (VWp.keepR [0] [] tt_ok hF rfl fun Nb hNb => ?_); simp only [go_sem, Int.reduceEq, Int.reduceNe, Int.reduceLT, Int.reduceLE, Nat.reduceEqDiff, Nat.reduceAdd, Nat.reduceMul, Nat.reduceLT, Nat.reduceLeDiff, Nat.reduceSub, reduceCtorEq, reduceIte, Int.reduceToNat, beq_self_eq_true, Bool.and_self]
    simp only [e0, e1, e2, e3, e4, e5, e6, go_sem, Int.reduceEq, Int.reduceNe, Int.reduceLT, Int.reduceLE, Nat.reduceEqDiff, Nat.reduceAdd, Nat.reduceMul, Nat.reduceLT, Nat.reduceLeDiff, Nat.reduceSub, reduceCtorEq, reduceIte, Int.reduceToNat, beq_self_eq_true, Bool.and_self]
    refine hNb _ (VWp.keep [2] [] ?_); simp only [go_sem, Int.reduceEq, Int.reduceNe, Int.reduceLT, Int.reduceLE, Nat.reduceEqDiff, Nat.reduceAdd, Nat.reduceMul, Nat.reduceLT, Nat.reduceLeDiff, Nat.reduceSub, reduceCtorEq, reduceIte, Int.reduceToNat, beq_self_eq_true, Bool.and_self]
    refine vwp_ret ?_
    simp only [go_sem, Int.reduceEq, Int.reduceNe, Int.reduceLT, Int.reduceLE, Nat.reduceEqDiff, Nat.reduceAdd, Nat.reduceMul, Nat.reduceLT, Nat.reduceLeDiff, Nat.reduceSub, reduceCtorEq, reduceIte, Int.reduceToNat, beq_self_eq_true, Bool.and_self]
    exact LeV.refl _
theorem gc_chg {w W : World} (h : GcW w) (hc : Chg [] w W) : GcW W := gc_keep h (fun b p c _ q => hc.cell q (by simp)) (hc.block _ (gc_lt h) (by simp))
theorem gc_below {w W : World} (h : GcW w) (hb : Below w.heap.size w W) : GcW W := gc_chg h (Chg.of_below hb [])
theorem pred_of {P : Program} {f : FuncId} (q : Nat → Bool) (h : ∀ x : Nat, Spec P f [.int .i32 (x : Int)] (.bool (q x))) (x : Nat) (W : World) (hg : GcW W) : Calls P f #[.int .i32 (x : Int)] W fun e w' => e = .returned (.bool (q x)) ∧ Below W.heap.size W w' := by
  refine ((h x).run (fun _ _ => False) W [.int .i32 (x : Int)] (fun _ _ h => h.elim) ⟨fun _ _ _ h => h, hg⟩ ⟨_, _, rfl, rfl, rfl⟩).mono ?_
  rintro e w' ⟨v, rfl, hc, hr⟩
  have hr : v = .bool (q x) := hr
  subst hr
  exact ⟨rfl, hc.nil_below⟩
theorem hasBad_any (S : ByteArray) (w : World) (hg : GcW w) : Calls Tryz.prog 31 #[.string S, .func (.func 59) #[] #[]] w fun e w' => e = .returned (.bool (!S.data.toList.all partC)) ∧ Chg [] w w' := by
  refine (Tryz.strings_ContainsFunc_grows 59 #[] (enters_of Tryz.func59 (by kernel_rfl) rfl) (fun x => !(capR x || sgB x)) S w (fun W x hx hb => pred_of _ name1_spec x W (gc_below hg hb))).mono ?_
  rintro e w' ⟨rfl, hb⟩
  refine ⟨?_, Chg.of_below hb []⟩
  rw [idx_all _ partC]
  · have : ∀ n < 128, (!(capR n || sgB n)) = !partC (UInt8.ofNat n) := by decide +kernel
    intro c hc
    have h := this c.toNat hc
    rwa [UInt8.ofNat_toNat] at h
  · intro x hx
    have h1 : capR x = false := by unfold capR; simp; omega
    have h2 : sgB x = false := by unfold sgB; simp; omega
    simp [h1, h2]
  · have : ∀ n < 256, partC (UInt8.ofNat n) = true → n < 128 := by decide +kernel
    intro c hc
    have h := this c.toNat c.toNat_lt
    rw [UInt8.ofNat_toNat] at h
    exact h hc
theorem hasBadS_any (S : ByteArray) (w : World) (hg : GcW w) : Calls Tryz.prog 31 #[.string S, .func (.func 32) #[] #[]] w fun e w' => e = .returned (.bool (!S.data.toList.all capC)) ∧ Chg [] w w' := by
  refine (Tryz.strings_ContainsFunc_grows 32 #[] (enters_of Tryz.func32 (by kernel_rfl) rfl) (fun x => !capR x) S w (fun W x hx hb => pred_of _ serial1_spec x W (gc_below hg hb))).mono ?_
  rintro e w' ⟨rfl, hb⟩
  refine ⟨?_, Chg.of_below hb []⟩
  rw [idx_all _ capC]
  · have : ∀ n < 128, (!capR n) = !capC (UInt8.ofNat n) := by decide +kernel
    intro c hc
    have h := this c.toNat hc
    rwa [UInt8.ofNat_toNat] at h
  · intro x hx
    have h1 : capR x = false := by unfold capR; simp; omega
    simp [h1]
  · have : ∀ n < 256, capC (UInt8.ofNat n) = true → n < 128 := by decide +kernel
    intro c hc
    have h := this c.toNat c.toNat_lt
    rw [UInt8.ofNat_toNat] at h
    exact h hc
theorem hasBadS_spec (s : Bs) : Spec Tryz.prog 31 [.str s, .fn (.func 32) []] (.bool (!s.all capC)) := by
  refine spec_lib Tryz.func31 rfl (by decide) rfl fun S w vs hG hv => ?_
  obtain ⟨u, v, rfl, h1, h2⟩ := repL2 hv
  cases h1
  obtain ⟨cs, rfl, h3⟩ := h2
  cases h3
  refine (hasBadS_any ⟨s.toArray⟩ w hG).mono ?_
  rintro e w' ⟨rfl, hc⟩
  exact ⟨_, rfl, hc, fun S' => rfl⟩
def serT (s : Bs) : Bool := decide (1 ≤ s.length) && decide (s.length ≤ 6) && s.all capC
set_option maxHeartbeats 4000000 in
set_option maxRecDepth 4000 in
theorem Serial_spec (s : Bs) : Spec Tryz.prog 13 [.str s] (.bool (serT s)) := by
  have hb := hasBadS_spec s
  by_cases c1 : 1 ≤ s.length
  · by_cases c2 : s.length ≤ 6
    · have e : serT s = s.all capC := by unfold serT; rw [decide_eq_true c1, decide_eq_true c2]; rfl
      have e1 : decide ((1 : Int) ≤ (s.length : Int)) = true := decide_eq_true (by omega)
      have e2 : decide ((s.length : Int) ≤ 6) = true := decide_eq_true (by omega)
      rw [e]
      refine spec_of tt_ok Tryz.func13 rfl (by decide) Tryz.ntmps13 (congrArg Array.toList Tryz.results13) (by simp) (by decide) rfl rfl (fun F hF => ?_)
      refine vwp_seq_k fun Na hNa => vreg tt_ok hF rfl ?_; simp only [go_sem, Int.reduceEq, Int.reduceNe, Int.reduceLT, Int.reduceLE, Nat.reduceEqDiff, Nat.reduceAdd, Nat.reduceMul, Nat.reduceLT, Nat.reduceLeDiff, Nat.reduceSub, reduceCtorEq, reduceIte, Int.reduceToNat, beq_self_eq_true, Bool.and_self]
      refine hNa _ (VWp.keepR [0] [] tt_ok hF rfl fun Nb hNb => ?_); simp only [go_sem, Int.reduceEq, Int.reduceNe, Int.reduceLT, Int.reduceLE, Nat.reduceEqDiff, Nat.reduceAdd, Nat.reduceMul, Nat.reduceLT, Nat.reduceLeDiff, Nat.reduceSub, reduceCtorEq, reduceIte, Int.reduceToNat, beq_self_eq_true, Bool.and_self]
      simp only [e1, e2, go_sem, Int.reduceEq, Int.reduceNe, Int.reduceLT, Int.reduceLE, Nat.reduceEqDiff, Nat.reduceAdd, Nat.reduceMul, Nat.reduceLT, Nat.reduceLeDiff, Nat.reduceSub, reduceCtorEq, reduceIte, Int.reduceToNat, beq_self_eq_true, Bool.and_self]
      refine .inl ⟨_, hb, ?_⟩; try simp only [go_sem, Int.reduceEq, Int.reduceNe, Int.reduceLT, Int.reduceLE, Nat.reduceEqDiff, Nat.reduceAdd, Nat.reduceMul, Nat.reduceLT, Nat.reduceLeDiff, Nat.reduceSub, reduceCtorEq, reduceIte, Int.reduceToNat, beq_self_eq_true, Bool.and_self]
      refine hNb _ (VWp.keep [2] [] ?_); simp only [go_sem, Int.reduceEq, Int.reduceNe, Int.reduceLT, Int.reduceLE, Nat.reduceEqDiff, Nat.reduceAdd, Nat.reduceMul, Nat.reduceLT, Nat.reduceLeDiff, Nat.reduceSub, reduceCtorEq, reduceIte, Int.reduceToNat, beq_self_eq_true, Bool.and_self]
      refine vwp_ret ?_
      simp only [go_sem, Int.reduceEq, Int.reduceNe, Int.reduceLT, Int.reduceLE, Nat.reduceEqDiff, Nat.reduceAdd, Nat.reduceMul, Nat.reduceLT, Nat.reduceLeDiff, Nat.reduceSub, reduceCtorEq, reduceIte, Int.reduceToNat, beq_self_eq_true, Bool.and_self]
      rw [Bool.not_not]
      exact LeV.refl _
    · have e : serT s = false := by unfold serT; rw [decide_eq_false c2, Bool.and_false, Bool.false_and]
      have e1 : decide ((1 : Int) ≤ (s.length : Int)) = true := decide_eq_true (by omega)
      have e2 : decide ((s.length : Int) ≤ 6) = false := decide_eq_false (by omega)
      rw [e]
      refine spec_of tt_ok Tryz.func13 rfl (by decide) Tryz.ntmps13 (congrArg Array.toList Tryz.results13) (by simp) (by decide) rfl rfl (fun F hF => ?_)
      refine vwp_seq_k fun Na hNa => vreg tt_ok hF rfl ?_; simp only [go_sem, Int.reduceEq, Int.reduceNe, Int.reduceLT, Int.reduceLE, Nat.reduceEqDiff, Nat.reduceAdd, Nat.reduceMul, Nat.reduceLT, Nat.reduceLeDiff, Nat.reduceSub, reduceCtorEq, reduceIte, Int.reduceToNat, beq_self_eq_true, Bool.and_self]
      refine hNa _ (VWp.keepR [0] [] tt_ok hF rfl fun Nb hNb => ?_); simp only [go_sem, Int.reduceEq, Int.reduceNe, Int.reduceLT, Int.reduceLE, Nat.reduceEqDiff, Nat.reduceAdd, Nat.reduceMul, Nat.reduceLT, Nat.reduceLeDiff, Nat.reduceSub, reduceCtorEq, reduceIte, Int.reduceToNat, beq_self_eq_true, Bool.and_self]
      simp only [e1, e2, go_sem, Int.reduceEq, Int.reduceNe, Int.reduceLT, Int.reduceLE, Nat.reduceEqDiff, Nat.reduceAdd, Nat.reduceMul, Nat.reduceLT, Nat.reduceLeDiff, Nat.reduceSub, reduceCtorEq, reduceIte, Int.reduceToNat, beq_self_eq_true, Bool.and_self]
      refine hNb _ (VWp.keep [2] [] ?_); simp only [go_sem, Int.reduceEq, Int.reduceNe, Int.reduceLT, Int.reduceLE, Nat.reduceEqDiff, Nat.reduceAdd, Nat.reduceMul, Nat.reduceLT, Nat.reduceLeDiff, Nat.reduceSub, reduceCtorEq, reduceIte, Int.reduceToNat, beq_self_eq_true, Bool.and_self]
      refine vwp_ret ?_
      simp only [go_sem, Int.reduceEq, Int.reduceNe, Int.reduceLT, Int.reduceLE, Nat.reduceEqDiff, Nat.reduceAdd, Nat.reduceMul, Nat.reduceLT, Nat.reduceLeDiff, Nat.reduceSub, reduceCtorEq, reduceIte, Int.reduceToNat, beq_self_eq_true, Bool.and_self]
      exact LeV.refl _
  · have e : serT s = false := by unfold serT; rw [decide_eq_false c1, Bool.false_and, Bool.false_and]
    have e1 : decide ((1 : Int) ≤ (s.length : Int)) = false := decide_eq_false (by omega)
    rw [e]
    refine spec_of tt_ok Tryz.func13 rfl (by decide) Tryz.ntmps13 (congrArg Array.toList Tryz.results13) (by simp) (by decide) rfl rfl (fun F hF => ?_)
    refine vwp_seq_k fun Na hNa => vreg tt_ok hF rfl ?_; simp only [go_sem, Int.reduceEq, Int.reduceNe, Int.reduceLT, Int.reduceLE, Nat.reduceEqDiff, Nat.reduceAdd, Nat.reduceMul, Nat.reduceLT, Nat.reduceLeDiff, Nat.reduceSub, reduceCtorEq, reduceIte, Int.reduceToNat, beq_self_eq_true, Bool.and_self]
    refine hNa _ (VWp.keepR [0] [] tt_ok hF rfl fun Nb hNb => ?_); simp only [go_sem, Int.reduceEq, Int.reduceNe, Int.reduceLT, Int.reduceLE, Nat.reduceEqDiff, Nat.reduceAdd, Nat.reduceMul, Nat.reduceLT, Nat.reduceLeDiff, Nat.reduceSub, reduceCtorEq, reduceIte, Int.reduceToNat, beq_self_eq_true, Bool.and_self]
    simp only [e1, go_sem, Int.reduceEq, Int.reduceNe, Int.reduceLT, Int.reduceLE, Nat.reduceEqDiff, Nat.reduceAdd, Nat.reduceMul, Nat.reduceLT, Nat.reduceLeDiff, Nat.reduceSub, reduceCtorEq, reduceIte, Int.reduceToNat, beq_self_eq_true, Bool.and_self]
    refine hNb _ (VWp.keep [2] [] ?_); simp only [go_sem, Int.reduceEq, Int.reduceNe, Int.reduceLT, Int.reduceLE, Nat.reduceEqDiff, Nat.reduceAdd, Nat.reduceMul, Nat.reduceLT, Nat.reduceLeDiff, Nat.reduceSub, reduceCtorEq, reduceIte, Int.reduceToNat, beq_self_eq_true, Bool.and_self]
    refine vwp_ret ?_
    simp only [go_sem, Int.reduceEq, Int.reduceNe, Int.reduceLT, Int.reduceLE, Nat.reduceEqDiff, Nat.reduceAdd, Nat.reduceMul, Nat.reduceLT, Nat.reduceLeDiff, Nat.reduceSub, reduceCtorEq, reduceIte, Int.reduceToNat, beq_self_eq_true, Bool.and_self]
    exact LeV.refl _
attribute [local go_sem] Oper.semAt_some
theorem part_no (x : Bs) (s : Bs) (pre : List Bs) (h : partOk x = false) : pre ++ [x] <+: splitAtC 46 s → nameOk s = false := by
  intro hp
  unfold nameOk
  have : (splitAtC 46 s).all partOk = false := by
    rw [List.all_eq_false]
    exact ⟨x, hp.subset (by simp), by simp [h]⟩
  rw [this, Bool.and_false]

set_option maxRecDepth 100000 in
set_option maxHeartbeats 2000000 in
theorem isName_any (S : ByteArray) (hS : S.size ≤ 1000000) (w : World) (hg : GcW w) : Calls Tryz.prog 39 #[.string S] w fun e w' => e = .returned (.bool (nameOk S.data.toList)) ∧ Chg [] w w' := by
  obtain ⟨s, hs⟩ : ∃ s, s = S.data.toList := ⟨_, rfl⟩
  have hlen : s.length ≤ 1000000 := by rw [hs]; simp; omega
  have hS2 : strS s = .string S := by unfold strS; rw [hs, bs_of]
  obtain ⟨R, hR⟩ : ∃ R, nameOk S.data.toList = R := ⟨_, rfl⟩
  have HR := hid (show nameOk s = R from by rw [hs]; exact hR)
  rw [hR]
  have hsl : s.length = S.size := by rw [hs, bs_len]
  clear hR hs
  have HS := hid hS2
  clear hS2
  refine (callsIn_wide (n := 7)).1 ?_
  refine callsIn_of_wp_marks Tryz.func39 rfl trivial ?_ rfl
  simp only [Tryz.ntmps39, List.size_toArray, List.length_cons, List.length_nil, Nat.reduceAdd, Nat.reduceSub, Array.replicate_succ, Array.replicate_zero, List.push_toArray, List.append_toArray, List.nil_append, List.cons_append]
  refine wpIn_wide.2 ?_
  go_wp2_with (go_at_call 58; refine (SplitSeq_any _ _).mono ?_; rintro e w' ⟨rfl, rfl⟩)
  unfold partsV
  have hr0 : ((((w.alloc (.cells #[.bool false] 4)).alloc (.cells #[.string S] 9)).alloc (.cells #[.string ⟨#[46]⟩] 9)).alloc (.cells #[.int .i64 0] 3)).heap[w.heap.size]? = some (.cells #[.bool false] 4 (0, 0)) := al_old (al_old (al_old (al_new rfl)))
  have hb0 : ((((w.alloc (.cells #[.bool false] 4)).alloc (.cells #[.string S] 9)).alloc (.cells #[.string ⟨#[46]⟩] 9)).alloc (.cells #[.int .i64 0] 3)).heap[w.heap.size + 1]? = some (.cells #[strS s] 9 (0, 0)) := by rw [HS.out]; exact al_old (al_old (al_new (by simp)))
  have hp0 : ((((w.alloc (.cells #[.bool false] 4)).alloc (.cells #[.string S] 9)).alloc (.cells #[.string ⟨#[46]⟩] 9)).alloc (.cells #[.int .i64 0] 3)).heap[w.heap.size + 1 + 1]? = some (.cells #[strS [46]] 9 (0, 0)) := al_old (al_new (by simp))
  have hv0 : ((((w.alloc (.cells #[.bool false] 4)).alloc (.cells #[.string S] 9)).alloc (.cells #[.string ⟨#[46]⟩] 9)).alloc (.cells #[.int .i64 0] 3)).heap[w.heap.size + 1 + 1 + 1]? = some (.cells #[.int .i64 0] 3 (0, 0)) := al_new (by simp)
  have hc0 : Chg [] w ((((w.alloc (.cells #[.bool false] 4)).alloc (.cells #[.string S] 9)).alloc (.cells #[.string ⟨#[46]⟩] 9)).alloc (.cells #[.int .i64 0] 3)) := (((Chg.alloc _ _ _).trans (Chg.alloc _ _ _)).trans (Chg.alloc _ _ _)).trans (Chg.alloc _ _ _)
  have hz0 : ((((w.alloc (.cells #[.bool false] 4)).alloc (.cells #[.string S] 9)).alloc (.cells #[.string ⟨#[46]⟩] 9)).alloc (.cells #[.int .i64 0] 3)).heap.size = w.heap.size + 4 := by simp
  generalize (((w.alloc (.cells #[.bool false] 4)).alloc (.cells #[.string S] 9)).alloc (.cells #[.string ⟨#[46]⟩] 9)).alloc (.cells #[.int .i64 0] 3) = W0 at *
  have hlt0 : w.heap.size + 4 ≤ W0.heap.size := by omega
  clear hz0
  refine rangeB 3 6 (w.heap.size + 1) (by omega) rfl (enters_of Tryz.func106 (by kernel_rfl) rfl) strS (by omega)
    (split_seq 5 (by omega) (w.heap.size + 1) (w.heap.size + 1 + 1) (w.heap.size + 1 + 1 + 1) s (by omega) (by omega) (by omega) W0 hb0 hp0 hv0)
    (fun h k => h.trans k) (KpS.put (by omega) (by omega) (by omega))
    (fun pre W => (∀ x ∈ pre, partOk x = true) ∧ W.heap[w.heap.size]? = some (.cells #[.bool false] 4 (0, 0)) ∧ Chg [] w W ∧ w.heap.size + 4 ≤ W.heap.size)
    (fun c pre W => c = .ret ∧ (pre <+: splitAtC 46 s → nameOk s = false) ∧ W.heap[w.heap.size]? = some (.cells #[.bool false] 4 (0, 0)) ∧ Chg [] w W ∧ w.heap.size + 4 ≤ W.heap.size)
    (fun p W W' row hs hg hr => ⟨hs.1, heap_turnB hs.2.1 hg (by omega) hr, hs.2.2.1.turnB (by omega) (by omega) hg hr, Nat.le_trans hs.2.2.2 hg.size⟩)
    (fun c p W W' row hs hg hr => ⟨hs.1, hs.2.1, heap_turnB hs.2.2.1 hg (by omega) hr, hs.2.2.2.1.turnB (by omega) (by omega) hg hr, Nat.le_trans hs.2.2.2.2 hg.size⟩)
    ⟨by simp, hr0, hc0, hlt0⟩ ?assign ?body ?done ?stop
  case assign =>
    intro l x W K hK
    simp only [frameB, List.setIfInBounds_toArray, List.set_cons_succ, List.set_cons_zero] at hK
    gi_wp2
    exact hK
  case body =>
    rintro l pre x W ⟨hall, hr, hc, hsz⟩ hlen2 hsv
    have c0 := cell_of_one hr
    have f0 := free_of_one hr
    simp only [frameB, List.setIfInBounds_toArray, List.set_cons_succ, List.set_cons_zero]
    unfold strS
    obtain ⟨X, hX⟩ : ∃ X : ByteArray, (⟨x.toArray⟩ : ByteArray) = X := ⟨_, rfl⟩
    rw [hX]
    have hXd : X.data.toList = x := by rw [← hX]
    have HXd := hid hXd
    have HR0 := hid hr
    have HC := hid hc
    clear hX hr hc hr0 hb0 hp0 hv0 hc0 hlt0 hlen2 hsv hXd
    have fin : ∀ W', Chg [] W W' → partOk x = false → ownPostK (KpS (w.heap.size + 1) (w.heap.size + 1 + 1) (w.heap.size + 1 + 1 + 1))
        (fun pre W => (∀ x ∈ pre, partOk x = true) ∧ W.heap[w.heap.size]? = some (.cells #[.bool false] 4 (0, 0)) ∧ Chg [] w W ∧ w.heap.size + 4 ≤ W.heap.size)
        (fun c pre W => c = .ret ∧ (pre <+: splitAtC 46 s → nameOk s = false) ∧ W.heap[w.heap.size]? = some (.cells #[.bool false] 4 (0, 0)) ∧ Chg [] w W ∧ w.heap.size + 4 ≤ W.heap.size)
        (pre ++ [x]) W .ret { tmps := #[], defers := [] } (W'.setCell ⟨w.heap.size, 0, none⟩ (.bool false)) := by
      intro W' hW hno
      have hk1 : W'.heap[w.heap.size]? = some (.cells #[.bool false] 4 (0, 0)) := hW.heap HR0.out (by simp)
      have hk2 : KeepsOthers W W' := keeps_chg hW
      refine ⟨hk2.trans (KeepsOthers.setCell _ _ _), rfl, part_no x s pre hno, one_setCell hk1, (HC.out.trans hW).then (Chg.setCell (L := [w.heap.size]) (p := ⟨w.heap.size, 0, none⟩) _ (.inl (by simp)) _) (by simp), ?_⟩
      have := hW.size
      simp; omega
    have HF := hid fin
    clear fin
    have c38 : ∀ b, (!x.all partC) = b → ∀ W', GcW W' → Calls Tryz.prog 31 #[.string X, .func (.func 59) #[] #[]] W' fun e w' => e = .returned (.bool b) ∧ Chg [] W' w' := fun b hb W' hgw => by
      have h := hasBad_any X W' hgw
      rw [HXd.out, hb] at h
      exact h
    have HC38 := hid c38
    have hG : GcW W := gc_chg hg HC.out
    clear c38
    by_cases h1 : X.size = 0
    · have hno : partOk x = false := by unfold partOk; rw [← HXd.out, bs_len, h1]; rfl
      have q1 : X.toList = [] := by rw [ByteArray.toList_eq]; exact List.eq_nil_of_length_eq_zero (by rw [bs_len]; exact h1)
      have HN := hid hno
      clear hno
      gi_wp2_with (refine ⟨trivial, ?_⟩)
      exact HF.out _ (Chg.refl _ _) HN.out
    · have hpos : 0 < X.size := by omega
      have q1 : X.toList.isEmpty = false := by
        rw [ByteArray.toList_eq]
        cases hx : X.data.toList with
        | nil => have := bs_len X; rw [hx] at this; simp at this; omega
        | cons a b => rfl
      obtain ⟨c, hc⟩ : ∃ c, X[0] = c := ⟨_, rfl⟩
      have hxc : x.headD 0 = c := by
        have hd : X.data.toList[0]? = some c := by
          rw [List.getElem?_eq_getElem (by rw [bs_len]; exact hpos), ← hc]; rfl
        rw [HXd.out] at hd
        cases hx : x with
        | nil => rw [hx] at hd; simp at hd
        | cons a b => rw [hx] at hd; simpa using hd
      have i1 : ∀ W, (Instr.index 9 (.string X) (.int .i64 0)).run Tryz.prog W = .ok (.int .u8 (c.toNat : Int)) W := fun W => by
        rw [run_index_string W _ _ _ _ Tryz.underlying9, dif_pos ⟨by omega, by omega⟩]
        simp only [Int.toNat_zero, hc]
      have hlx : x.length = X.size := by rw [← HXd.out, bs_len]
      have hcl := c.toNat_lt
      clear hc
      by_cases h2 : (8 : Int) < (X.size : Int)
      · have hno : partOk x = false := by unfold partOk; rw [decide_eq_false (by omega : ¬ x.length ≤ 8)]; simp
        have HN := hid hno
        clear hno hlx hxc
        gi_wp2_with (refine ⟨trivial, ?_⟩)
        exact HF.out _ (Chg.refl _ _) HN.out
      · by_cases h3 : (48 : Int) ≤ (c.toNat : Int) ∧ (c.toNat : Int) ≤ 57
        · obtain ⟨h3, h4⟩ := h3
          have hno : partOk x = false := by
            unfold partOk digC
            rw [hxc, decide_eq_true (by omega : 48 ≤ c.toNat), decide_eq_true (by omega : c.toNat ≤ 57)]; simp
          have HN := hid hno
          clear hno hlx hxc
          gi_wp2_with (refine ⟨trivial, ?_⟩)
          exact HF.out _ (Chg.refl _ _) HN.out
        · have hpart : partOk x = x.all partC := by
            unfold partOk digC
            rw [hxc, decide_eq_true (by omega : 1 ≤ x.length), decide_eq_true (by omega : x.length ≤ 8)]
            have : (decide (48 ≤ c.toNat) && decide (c.toNat ≤ 57)) = false := by simp; omega
            rw [this]; simp
          have HPt := hid hpart
          clear hpart hxc hlx
          cases hb : x.all partC
          · have c38 := HC38.out true (by rw [hb]; rfl)
            have HN := hid (HPt.out.trans hb)
            clear hb
            by_cases h4 : (48 : Int) ≤ (c.toNat : Int)
            · have h5 : ¬ (c.toNat : Int) ≤ 57 := fun h => h3 ⟨h4, h⟩
              clear h3
              gi_wp2_with (refine ⟨trivial, ?_⟩; gi_at_call 31; refine (CallsIn.inRound l (callsIn_wide.2 (c38 _ hG))).mono ?_; rintro e w' ⟨rfl, hcw⟩; have c0' := hcw.cell c0 (by simp); have f0' := free_of_one (hcw.heap HR0.out (by simp)))
              exact HF.out _ hcw HN.out
            · clear h3
              gi_wp2_with (refine ⟨trivial, ?_⟩; gi_at_call 31; refine (CallsIn.inRound l (callsIn_wide.2 (c38 _ hG))).mono ?_; rintro e w' ⟨rfl, hcw⟩; have c0' := hcw.cell c0 (by simp); have f0' := free_of_one (hcw.heap HR0.out (by simp)))
              exact HF.out _ hcw HN.out
          · have c38 := HC38.out false (by rw [hb]; rfl)
            have HN := hid (HPt.out.trans hb)
            clear hb
            have done : ∀ w', Chg [] W w' → KeepsOthers W w' ∧ KpS (w.heap.size + 1) (w.heap.size + 1 + 1) (w.heap.size + 1 + 1 + 1) W w' ∧ (∀ y ∈ pre ++ [x], partOk y = true) ∧ w'.heap[w.heap.size]? = some (.cells #[.bool false] 4 (0, 0)) ∧ Chg [] w w' ∧ w.heap.size + 4 ≤ w'.heap.size := by
              intro w' hw
              have hz := hw.size
              refine ⟨keeps_chg hw, KpS.of_chg hw (by simp) (by simp) (by simp) (by omega) (by omega) (by omega), ?_, hw.heap HR0.out (by simp), HC.out.trans hw, by omega⟩
              intro y hy
              rcases List.mem_append.1 hy with h | h
              · exact hall y h
              · rw [List.mem_singleton.1 h]; exact HN.out
            have HDn := hid done
            clear done
            by_cases h4 : (48 : Int) ≤ (c.toNat : Int)
            · have h5 : ¬ (c.toNat : Int) ≤ 57 := fun h => h3 ⟨h4, h⟩
              clear h3
              gi_wp2_with (refine ⟨trivial, ?_⟩; gi_at_call 31; refine (CallsIn.inRound l (callsIn_wide.2 (c38 _ hG))).mono ?_; rintro e w' ⟨rfl, hcw⟩)
              exact HDn.out _ hcw
            · clear h3
              gi_wp2_with (refine ⟨trivial, ?_⟩; gi_at_call 31; refine (CallsIn.inRound l (callsIn_wide.2 (c38 _ hG))).mono ?_; rintro e w' ⟨rfl, hcw⟩)
              exact HDn.out _ hcw
  case done =>
    rintro D xs W hD rfl ⟨hall, hr, hc, hsz⟩ hK
    have hyes : nameOk s = decide ((S.size : Int) ≤ 44) := by
      unfold nameOk
      rw [List.all_eq_true.2 hall, Bool.and_true]
      apply decide_eq_decide.2
      rw [hsl]; omega
    obtain rfl : R = decide ((S.size : Int) ≤ 44) := HR.out.symm.trans hyes
    have c0 := cell_of_one hr
    have f0 := free_of_one hr
    have HK := hid hK
    have HC := hid hc
    have HR0 := hid hr
    clear hyes hall hr0 hb0 hp0 hv0 hc0 hK hc hr
    go_wp2_with (fail)
    have hk3 : (W.setCell ⟨w.heap.size, 0, none⟩ (.bool (decide ((S.size : Int) ≤ 44)))).heap[D]? = some (.deferred (some [])) := (heap_setCell_other W ⟨w.heap.size, 0, none⟩ D (.bool (decide ((S.size : Int) ≤ 44))) (by simp; omega)).trans HK.out
    have hr3 := one_setCell (u := (.bool (decide ((S.size : Int) ≤ 44)))) HR0.out
    have hc3 := HC.out.then (Chg.setCell (L := [w.heap.size]) (p := ⟨w.heap.size, 0, none⟩) W (.inl (by simp)) (.bool (decide ((S.size : Int) ≤ 44)))) (by simp)
    generalize W.setCell ⟨w.heap.size, 0, none⟩ (.bool (decide ((S.size : Int) ≤ 44))) = W3 at *
    have q0 := heap_turnB (b := D) (B := D) hr3 (grownBy_putObj' W3 D (.deferred none)) (by omega) (fun r e => by cases e; exact .inl rfl)
    have q1 := cell_of_one q0
    refine ⟨by simp, .inl ⟨_, _, rfl, run_takeDeferred hk3, ?_⟩⟩
    refine ⟨(.bool (decide ((S.size : Int) ≤ 44))), ?_, rfl, ?_⟩
    · simp [results, Tryz.f39, go_sem, q1]
    · exact hc3.then (Chg.of_grownBy (L := [D]) (grownBy_putObj' W3 D (.deferred none)) (fun k e => by cases e; exact .inl (by simp))) (by simp; omega)
  case stop =>
    rintro D c pre W hD hpre ⟨rfl, hno, hr, hc, hsz⟩ hK
    obtain rfl : R = false := HR.out.symm.trans (hno hpre)
    have HK := hid hK
    have HC := hid hc
    have HR0 := hid hr
    clear hno hr0 hb0 hp0 hv0 hc0 hK hc hr
    go_wp2_with (fail)
    have q0 := heap_turnB (b := D) (B := D) HR0.out (grownBy_putObj' W D (.deferred none)) (by omega) (fun r e => by cases e; exact .inl rfl)
    have q1 := cell_of_one q0
    refine ⟨by simp, .inl ⟨_, _, rfl, run_takeDeferred HK.out, ?_⟩⟩
    refine ⟨.bool false, ?_, rfl, ?_⟩
    · simp [results, Tryz.f39, go_sem, q1]
    · exact HC.out.then (Chg.of_grownBy (L := [D]) (grownBy_putObj' W D (.deferred none)) (fun k e => by cases e; exact .inl (by simp))) (by simp; omega)

theorem isName_spec (s : Bs) (hs : s.length ≤ 1000000) : Spec Tryz.prog 39 [.str s] (.bool (nameOk s)) := by
  refine spec_lib Tryz.func39 rfl (by decide) rfl fun S w vs hG hv => ?_
  obtain ⟨u, rfl, h1⟩ := repL1 hv
  cases h1
  refine (isName_any ⟨s.toArray⟩ hs w hG).mono ?_
  rintro e w' ⟨rfl, hc⟩
  exact ⟨_, rfl, hc, fun S' => rfl⟩
end Go.Proofs.YtjedikaidbobdaaGreatDoor
