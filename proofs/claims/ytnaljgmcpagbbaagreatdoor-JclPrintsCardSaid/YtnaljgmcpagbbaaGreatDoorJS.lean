import Derived.Laws.Runes
import Derived.Outline
import Derived.WalkMore
import Derived.Lib.OthersKept
import Derived.Deep.LoopGhost
import Derived.Deep.QuietTactic
import Derived.BigQuiet
import Derived.RangeFuncNested
import Derived.RangeFuncBound
import Derived.RangeFuncCalls
import Derived.RangeFuncLeaves
import Derived.Shelf.Abstract
import Derived.Shelf.RegionOpen
import Derived.WalkKit
import Derived.OwnWalkIn
import Derived.TacticsInMore
import Derived.LoopNIn
import Derived.LoopIn
import Derived.WalkSpells
import Derived.WalkLawsBesides
import Derived.Test.YtnaljgmcpagbbaaGreatDoorProg
import Derived.Test.YtnaljgmcpagbbaaGreatDoorShelf
import Derived.Test.YtnaljgmcpagbbaaGreatDoorJL
/- Loops over strings.SplitSeq; isKey of layer 34. -/
namespace Go.Proofs.YtnaljgmcpagbbaaGreatDoor
open Go.RowKit Go.Shelf
set_option linter.unusedVariables false
set_option linter.unusedSimpArgs false
theorem str_inj {S T : ByteArray} (h : S.data.toList = T.data.toList) : S = T := by
  cases S; cases T; simp only at h; congr 1; exact Array.toList_inj.1 h
theorem bs_of (S : ByteArray) : (⟨S.data.toList.toArray⟩ : ByteArray) = S := by cases S; simp
theorem repL2 {S : Sit} {x y : V} {vs : List Value} (h : RepL S [x, y] vs) : ∃ u v, vs = [u, v] ∧ Rep S x u ∧ Rep S y v := by obtain ⟨u, _, rfl, h1, v, _, rfl, h2, h3⟩ := h; cases h3; exact ⟨u, v, rfl, h1, h2⟩
theorem repL3 {S : Sit} {x y z : V} {vs : List Value} (h : RepL S [x, y, z] vs) : ∃ u v t, vs = [u, v, t] ∧ Rep S x u ∧ Rep S y v ∧ Rep S z t := by obtain ⟨u, _, rfl, h1, v, _, rfl, h2, t, _, rfl, h3, h4⟩ := h; cases h4; exact ⟨u, v, t, rfl, h1, h2, h3⟩
def splitAtC (d : UInt8) : Bs → List Bs
  | [] => [[]]
  | c :: t => if c = d then [] :: splitAtC d t else match splitAtC d t with
    | [] => [[c]]
    | p :: ps => (c :: p) :: ps
theorem splitAtC_ne (d : UInt8) : ∀ s, splitAtC d s ≠ []
  | [] => by simp [splitAtC]
  | c :: t => by
    unfold splitAtC
    split
    · simp
    · split <;> simp
theorem splitAtC_cons (d : UInt8) : ∀ (p t : Bs), (∀ c ∈ p, c ≠ d) → splitAtC d (p ++ d :: t) = p :: splitAtC d t
  | [], t, _ => by simp [splitAtC]
  | c :: p, t, h => by
    have ih := splitAtC_cons d p t (fun x hx => h x (List.mem_cons_of_mem _ hx))
    rw [List.cons_append, splitAtC, if_neg (h c List.mem_cons_self), ih]
theorem splitAtC_last (d : UInt8) : ∀ (p : Bs), (∀ c ∈ p, c ≠ d) → splitAtC d p = [p]
  | [], _ => rfl
  | c :: p, h => by
    have ih := splitAtC_last d p (fun x hx => h x (List.mem_cons_of_mem _ hx))
    rw [splitAtC, if_neg (h c List.mem_cons_self), ih]
def szV : Value → Nat
  | .string b => b.size
  | _ => 0
def AbB {β : Type} (b B : Nat) (J : β → World → Prop) : Prop :=
  ∀ s W W' row, J s W → W.grownBy W' row → (∀ r, row = some r → r = b ∨ (B ≤ r ∧ ∃ o : Obj, W.heap[r]? = some o ∧ o.isWalk = true)) → J s W'
def OwB {β : Type} (b B : Nat) (I : β → World → Prop) : Prop :=
  ∀ s W W' row, I s W → W.grownBy W' row → (∀ r, row = some r → r = b ∨ (B ≤ r ∧ ∃ o : Obj, W.heap[r]? = some o ∧ o.isCells = false)) → I s W'
def SeqB {α : Type} (n : Nat) (P : Program) (gf : Nat) (lb : Array Value) (enc : α → Value) (Kp : World → World → Prop) (S Sp : List α → Prop) (N b : Nat) (w : World) : Prop :=
  ∀ (l : Nat) (J Jx : List α → World → Prop) (W : World), Below w.heap.size w W → AbB b W.heap.size J → AbB b W.heap.size Jx →
    (∀ pre x W1, J pre W1 → pre.length < N → szV (enc x) ≤ N → YieldAt Fence.wide (n - 1) P l #[enc x] W1 fun e W' =>
      (e = .returned (.bool true) ∧ J (pre ++ [x]) W' ∧ Kp W1 W') ∨ (e = .returned (.bool false) ∧ Jx (pre ++ [x]) W')) →
    J [] W →
    CallsIn Fence.wide n P gf (#[.func (.yield l) #[] #[]] ++ lb) W fun e W' => (∃ v, e = .returned v) ∧ ((∃ xs, S xs ∧ J xs W') ∨ (∃ pre, Sp pre ∧ Jx pre W'))

section
variable {β : Type} {b B : Nat} {I : β → World → Prop}
theorem OwB.put (h : OwB b B I) {s : β} {W : World} {l : Nat} {o : Obj} (o' : Obj) (hs : I s W) (hB : B ≤ l) (hl : W.heap[l]? = some o) (ho : o.isCells = false) : I s (W.putObj l o') :=
  h s W _ (some l) hs (grownBy_putObj' W l o') (fun r e => by cases e; exact .inr ⟨hB, o, hl, ho⟩)
theorem OwB.new (h : OwB b B I) {s : β} {W : World} (o : Obj) (hs : I s W) : I s (W.alloc o) := h s W _ none hs (World.grownBy_alloc W o none) (fun r e => by cases e)
end

def frameB (a : Act) (p q : Nat) (v : Value) : Act := { tmps := (a.tmps.setIfInBounds p v).setIfInBounds q v, defers := [] }

theorem rangeB {P : Program} {α : Type} {g : Operand} {p : Nat} {assign body : Code} {Q : Exit → Act → World → Prop} {a : Act} {w : World} (q n b : Nat)
    (h1 : 1 ≤ n) {gf : Nat} {lb : Array Value} (hg : a.eval g = .func (.func gf) #[] lb) (eg : ∀ args w, (callFunc gf args).run P w = .ok (.enter gf args) w)
    (enc : α → Value) {Kp : World → World → Prop} {S Sp : List α → Prop} {N : Nat} (hblt : b < w.heap.size) (hseq : SeqB (n - 1) P gf lb enc Kp S Sp N b w)
    (hKt : ∀ {A B C : World}, Kp A B → Kp B C → Kp A C) (hKb : ∀ (W : World) (l : Nat) (o o' : Obj), w.heap.size ≤ l → W.heap[l]? = some o → o.isCells = false → o.isWalk = false → Kp W (W.putObj l o'))
    (I : List α → World → Prop) (Ix : Code → List α → World → Prop) (hI : OwB b w.heap.size I) (hIx : ∀ c, OwB b w.heap.size (Ix c)) (h0 : I [] w)
    (hassign : ∀ (l : Nat) (x : α) (W : World) (K : Act → World → Prop), K (frameB a p q (enc x)) W →
      assign.wpIn (Fence.wide.inRound l) (n - 1 - 1) P (Exit.then K (fun _ _ _ => False)) { tmps := a.tmps.setIfInBounds p (enc x), defers := [] } W)
    (hbody : ∀ (l : Nat) (pre : List α) (x : α) (W : World), I pre W → pre.length < N → szV (enc x) ≤ N → body.wpIn (Fence.wide.inRound l) (n - 1 - 1) P (ownPostK Kp I Ix (pre ++ [x]) W) (frameB a p q (enc x)) W)
    (hdone : ∀ (D : Nat) (xs : List α) (W : World), w.heap.size ≤ D → S xs → I xs W → W.heap[D]? = some (.deferred (some [])) → Q .normal { a with defers := { target := .collected D, args := #[] } :: a.defers } W)
    (hstop : ∀ (D : Nat) (c : Code) (pre : List α) (W : World), w.heap.size ≤ D → Sp pre → Ix c pre W → W.heap[D]? = some (.deferred (some [])) → c.wp P Q { a with defers := { target := .collected D, args := #[] } :: a.defers } W) :
    (Code.rangeFunc g #[p] assign body).wp P Q a w := by
  refine (wpIn_wide (n := n)).1 (wpIn_rangeFunc fun fn hfn => ?_)
  let lp : LoopState → Option Code → Obj := fun st pe => .loop { state := st, pending := pe, fn, tmps := a.tmps, params := #[p], assign, body, defers := w.heap.size }
  -- the two blocks of the loop's book-keeping
  let D := w.heap.size
  let l := w.heap.size + 1
  let Bk : World → LoopState → Option Code → Prop := fun W st pe => W.heap[l]? = some (lp st pe) ∧ W.heap[D]? = some (.deferred (some []))
  obtain ⟨W1, hW1⟩ : ∃ W1, (w.alloc (.deferred (some []))).alloc (lp .ready none) = W1 := ⟨_, rfl⟩
  have hsz : W1.heap.size = w.heap.size + 2 := by rw [← hW1]; simp
  have hB1 : Bk W1 .ready none := by
    rw [← hW1]
    exact ⟨al_new (by simp [l]), al_old (al_new rfl)⟩
  have put : ∀ {W : World} {st st' : LoopState} {pe pe' : Option Code}, Bk W st pe → Bk (W.putObj l (lp st' pe')) st' pe' := fun h =>
    ⟨World.putObj_heap_same (lt_of_block h.1), (World.putObj_heap_other (by show D ≠ l; simp [D, l])).trans h.2⟩
  have keepBk : ∀ {W W' : World} {row : Option Nat} {st : LoopState} {pe : Option Code}, Bk W st pe → W.grownBy W' row → (∀ r, row = some r → r = b ∨ (W1.heap.size ≤ r ∧ ∃ o : Obj, W.heap[r]? = some o ∧ o.isWalk = true)) → Bk W' st pe := by
    intro W W' row st pe h hgr hr
    have ne : ∀ k, k = D ∨ k = l → some k ≠ row := fun k hk e => by
      have hD : D = w.heap.size := rfl
      have hl : l = w.heap.size + 1 := rfl
      rcases hr k e.symm with h | ⟨h, _⟩ <;> omega
    exact ⟨(hgr.block l (lt_of_block h.1) (ne l (.inr rfl))).trans h.1, (hgr.block D (lt_of_block h.2) (ne D (.inl rfl))).trans h.2⟩
  have wide : ∀ {A : World} {row : Option Nat}, (∀ r, row = some r → r = b ∨ (W1.heap.size ≤ r ∧ ∃ o : Obj, A.heap[r]? = some o ∧ o.isWalk = true)) → ∀ r, row = some r → r = b ∨ (w.heap.size ≤ r ∧ ∃ o : Obj, A.heap[r]? = some o ∧ o.isCells = false) := by
    intro A row hr r e
    rcases hr r e with h | ⟨h, o, ho, hw⟩
    · exact .inl h
    · exact .inr ⟨by omega, o, ho, Obj.not_cells_of_walk hw⟩
  refine ⟨l, [{ target := .collected D, args := #[] }], W1, { target := .fn (.func gf) lb, args := #[.func (.yield l) #[] #[]] }, W1, gf, #[.func (.yield l) #[] #[]] ++ lb, W1, ?_, ?_, fun _ _ => trivial, ?_, fun _ => h1, ?_⟩
  · rw [← hW1]; exact run_enterLoop_outer _ _ _ _ _
  · simp only [resolve, hg]
    simp [go_sem]
  · simp [invoke, go_sem, eg]
  · have hbel : Below w.heap.size w W1 := by rw [← hW1]; exact ((Below.refl _ w).alloc (Nat.le_refl _) _).alloc (by simp) _
    refine (hseq l (fun pre W => I pre W ∧ Bk W .ready none) (fun pre W => ∃ c, Ix c pre W ∧ Bk W .done (some c)) W1 hbel
      (fun s A A' row hs hgr hr => ⟨hI s A A' row hs.1 hgr (wide hr), keepBk hs.2 hgr hr⟩)
      (fun s A A' row hs hgr hr => by obtain ⟨c, hc, hk⟩ := hs; exact ⟨c, hIx c s A A' row hc hgr (wide hr), keepBk hk hgr hr⟩) ?_ ⟨by rw [← hW1]; exact hI.new _ (hI.new _ h0), hB1⟩).mono ?_
    · rintro pre x W ⟨hi, hk⟩ hlen hsv
      have hyield := run_yield (P := P) (args := #[enc x]) hk.1 rfl
      have hz : (#[p].zip #[enc x]).foldl (fun tmps (t, a) => tmps.setIfInBounds t a) a.tmps = a.tmps.setIfInBounds p (enc x) := by simp
      dsimp only at hyield
      rw [hz] at hyield
      refine ⟨fn, _, assign, body, hyield, roundIn_of_wpIn hfn ?_⟩
      refine hassign l x W _ ?_
      refine ⟨_, run_beginRound hk.1 rfl, ?_⟩
      have hk2 : Bk (W.putObj l (lp .busy none)) .busy none := put hk
      have hle : w.heap.size ≤ l := by simp [l]
      refine wpIn_mono (hbody l pre x _ (hI.put _ hi hle hk.1 rfl) hlen hsv) ?_
      -- the round's end, whatever the way out
      have fin : ∀ (jump : Option Code) (W3 : World), KeepsOthers (W.putObj l (lp .busy none)) W3 →
          W3.heap[l]? = some (lp .busy none) ∧ (Instr.endRound l jump).run P W3 = .ok (.bool jump.isNone) (W3.putObj l (lp (if jump.isNone then .ready else .done) jump)) ∧ Bk (W3.putObj l (lp (if jump.isNone then .ready else .done) jump)) (if jump.isNone then .ready else .done) jump := fun jump W3 hk3 => by
        have hb3 : Bk W3 .busy none := ⟨hk3.same _ _ hk2.1 rfl, hk3.same _ _ hk2.2 rfl⟩
        exact ⟨hb3.1, run_endRound (P := P) jump hb3.1, put hb3⟩
      have leaves : ∀ (c : Code) (W3 : World), KeepsOthers (W.putObj l (lp .busy none)) W3 → Ix c (pre ++ [x]) W3 →
          ∃ v w', (Instr.endRound l (some c)).run P W3 = .ok v w' ∧ ((Ending.returned v = .returned (.bool true) ∧ (I (pre ++ [x]) w' ∧ Bk w' .ready none) ∧ Kp W w') ∨ (Ending.returned v = .returned (.bool false) ∧ ∃ c, Ix c (pre ++ [x]) w' ∧ Bk w' .done (some c))) := fun c W3 hk3 hx => by
        obtain ⟨hl3, hrun, hb4⟩ := fin (some c) W3 hk3
        exact ⟨_, _, hrun, .inr ⟨rfl, c, (hIx c).put _ hx hle hl3 rfl, hb4⟩⟩
      rintro e a3 W3 hp
      cases e with
      | normal =>
        obtain ⟨hk3, hkp, hi3⟩ := hp
        obtain ⟨hl3, hrun, hb4⟩ := fin none W3 hk3
        exact ⟨_, _, hrun, .inl ⟨rfl, ⟨hI.put _ hi3 hle hl3 rfl, hb4⟩, hKt (hKt (hKb _ _ _ _ hle hk.1 rfl rfl) hkp) (hKb _ _ _ _ hle hl3 rfl rfl)⟩⟩
      | ret => exact leaves .ret W3 hp.1 hp.2
      | exit id => exact leaves (.exit id) W3 hp.1 hp.2
      | goto t => exact leaves (.goto t) W3 hp.1 hp.2
      | panic ch => exact hp.elim
      | outgrown => exact hp.elim
    · rintro e W2 ⟨⟨v, rfl⟩, (⟨xs, hS, hi, hk⟩ | ⟨pre, hSp, c, hi, hk⟩)⟩
      · exact ⟨none, _, run_endLoop (P := P) hk.1 (by simp), hdone D xs _ (Nat.le_refl _) hS (hI.put _ hi (by simp [l]) hk.1 rfl) (put (st' := .exhausted) (pe' := none) hk).2⟩
      · exact ⟨some c, _, run_endLoop (P := P) hk.1 (by simp), wpIn_wide.2 (hstop D c pre _ (Nat.le_refl _) hSp ((hIx c).put _ hi (by simp [l]) hk.1 rfl) (put (st' := .exhausted) (pe' := some c) hk).2)⟩

theorem keeps_chg {W W' : World} (h : Chg [] W W') : KeepsOthers W W' := ⟨h.size, fun k o hk ho => h.heap hk (by simp)⟩

end Go.Proofs.YtnaljgmcpagbbaaGreatDoor
namespace Go.Proofs.YtnaljgmcpagbbaaGreatDoor
open Go.RowKit Go.Shelf
set_option linter.unusedVariables false
set_option linter.unusedSimpArgs false
attribute [local go_sem] Oper.semAt_some
theorem byteIdx_cases (c : UInt8) : ∀ l : List UInt8, (Lib.indexByte l c = -1 ∧ ∀ x ∈ l, x ≠ c) ∨ ∃ k : Nat, Lib.indexByte l c = k ∧ k < l.length ∧ l = l.take k ++ c :: l.drop (k + 1) ∧ ∀ x ∈ l.take k, x ≠ c
  | [] => .inl ⟨rfl, by simp⟩
  | b :: l => by
    unfold Lib.indexByte
    by_cases hb : b = c
    · subst hb
      rw [if_pos (by simp)]
      exact .inr ⟨0, rfl, by simp, by simp, by simp⟩
    · rw [if_neg (by simpa using hb)]
      rcases byteIdx_cases c l with ⟨h, h'⟩ | ⟨k, h, h1, h2, h3⟩
      · rw [h, if_pos (by simp)]
        exact .inl ⟨rfl, fun x hx => by rcases List.mem_cons.1 hx with rfl | hx; exact hb; exact h' x hx⟩
      · rw [h, if_neg (by simp)]
        refine .inr ⟨k + 1, by omega, by simp; omega, by simp only [List.take_succ_cons, List.drop_succ_cons, List.cons_append]; rw [← h2], fun x hx => ?_⟩
        rw [List.take_succ_cons] at hx
        rcases List.mem_cons.1 hx with rfl | hx
        · exact hb
        · exact h3 x hx

def KpS (a b c : Nat) (W W' : World) : Prop := W'.heap[a]? = W.heap[a]? ∧ W'.heap[b]? = W.heap[b]? ∧ W'.heap[c]? = W.heap[c]?
theorem KpS.refl (a b c : Nat) (W : World) : KpS a b c W W := ⟨rfl, rfl, rfl⟩
theorem KpS.trans {a b c : Nat} {A B C : World} (h : KpS a b c A B) (k : KpS a b c B C) : KpS a b c A C := ⟨k.1.trans h.1, k.2.1.trans h.2.1, k.2.2.trans h.2.2⟩
theorem KpS.put {a b c : Nat} {w : World} (ha : a < w.heap.size) (hb : b < w.heap.size) (hc : c < w.heap.size) (W : World) (l : Nat) (o o' : Obj) (hl : w.heap.size ≤ l) (_ : W.heap[l]? = some o) (_ : o.isCells = false) (_ : o.isWalk = false) : KpS a b c W (W.putObj l o') :=
  ⟨World.putObj_heap_other (by omega), World.putObj_heap_other (by omega), World.putObj_heap_other (by omega)⟩
theorem KpS.of_chg {a b c : Nat} {L : List Nat} {W W' : World} (h : Chg L W W') (ha : a ∉ L) (hb : b ∉ L) (hc : c ∉ L) (la : a < W.heap.size) (lb : b < W.heap.size) (lc : c < W.heap.size) : KpS a b c W W' := ⟨h.block a la ha, h.block b lb hb, h.block c lc hc⟩

theorem grown_setCell (W : World) (b i : Nat) (v : Value) : W.grownBy (W.setCell ⟨b, i, none⟩ v) (some b) :=
  ⟨rfl, rfl, rfl, by simp, fun k _ hk => Below.heap_setCell _ _ _ _ (fun e => hk (by rw [e]))⟩

def strS (x : Bs) : Value := .string ⟨x.toArray⟩

def restLen (w : World) (b : Nat) : Nat := match w.cell? ⟨b, 0, none⟩ with | some (.string t) => t.size | _ => 0
theorem restLen_eq {w : World} {b : Nat} {t : ByteArray} (h : w.cell? ⟨b, 0, none⟩ = some (.string t)) : restLen w b = t.size := by unfold restLen; rw [h]

set_option maxRecDepth 100000 in
set_option maxHeartbeats 2000000 in
theorem split1_in (n : Nat) (hn : 1 ≤ n) (l sB pB vB : Nat) (s : Bs) (hs : s.length ≤ 1000000) (hsp : sB ≠ pB) (hsv : sB ≠ vB) (J Jx : List Bs → World → Prop) (B : Nat) (hJ : AbB sB B J)
    (hY : ∀ pre x W, J pre W → pre.length < s.length + 1 → szV (strS x) ≤ s.length + 1 → YieldAt Fence.wide (n - 1) Tryz.prog l #[strS x] W fun e W' =>
      (e = .returned (.bool true) ∧ J (pre ++ [x]) W' ∧ KpS sB pB vB W W') ∨ (e = .returned (.bool false) ∧ Jx (pre ++ [x]) W'))
    (W : World) (hB : W.heap[sB]? = some (.cells #[strS s] 9 (0, 0))) (hp : W.heap[pB]? = some (.cells #[strS [46]] 9 (0, 0))) (hv : W.heap[vB]? = some (.cells #[.int .i64 0] 3 (0, 0))) (h0 : J [] W) :
    CallsIn Fence.wide n Tryz.prog 98 #[.func (.yield l) #[] #[], .pointer (some ⟨pB, 0, none⟩), .pointer (some ⟨sB, 0, none⟩), .pointer (some ⟨vB, 0, none⟩)] W fun e W' => (∃ v, e = .returned v) ∧
      ((∃ xs, xs = splitAtC 46 s ∧ J xs W') ∨ (∃ pre, pre <+: splitAtC 46 s ∧ Jx pre W')) := by
  have cp := cell_of_one hp
  have cs := cell_of_one hB
  have HP := hid hp
  have HV := hid hv
  have HBB := hid hB
  clear hp hv hB
  refine callsIn_of_wp Tryz.func98 rfl trivial ?_ rfl
  simp only [Tryz.ntmps98, List.size_toArray, List.length_cons, List.length_nil, Nat.reduceAdd, Nat.reduceSub, Array.replicate_succ, Array.replicate_zero, List.push_toArray, List.append_toArray, List.nil_append, List.cons_append]
  unfold strS at cp
  gi_wp2
  gi_loopw [] (fun wr => ∃ (pre : List Bs) (rest : Bs), Hid (splitAtC 46 s = pre ++ splitAtC 46 rest) ∧ pre.length + rest.length ≤ s.length ∧ Hid (J pre wr) ∧ Hid (wr.heap[sB]? = some (.cells #[strS rest] 9 (0, 0))) ∧ Hid (wr.heap[pB]? = some (.cells #[strS [46]] 9 (0, 0))) ∧ Hid (wr.heap[vB]? = some (.cells #[.int .i64 0] 3 (0, 0))))
    (fun wr => restLen wr sB)
  case atStart => exact ⟨[], s, rfl, by simp, h0, HBB, HP, HV⟩
  case round =>
    clear cp cs
    obtain ⟨pre, rest, hsplit, hlen, hJs, hb, hp, hv⟩ := hrel
    have hlen1 : pre.length < s.length + 1 := by omega
    have hb1 := lt_of_block hb.out
    obtain ⟨T, hT⟩ : ∃ T : ByteArray, (⟨rest.toArray⟩ : ByteArray) = T := ⟨_, rfl⟩
    have hTd : T.data.toList = rest := by rw [← hT]
    have hTs : T.size = rest.length := by rw [← hT]; rfl
    have cs := cell_of_one hb.out
    have cp := cell_of_one hp.out
    have cv := cell_of_one hv.out
    have fs := free_of_one hb.out
    unfold strS at cs cp
    rw [hT] at cs
    have hI : ∀ W, Calls Tryz.prog 80 #[.string T, .string ⟨#[46]⟩] W fun e w' => e = .returned (.int .i64 (Lib.indexByte rest 46)) ∧ W = w' := fun W => by
      have h := Tryz.strings_Index_one T 46 W
      rw [hTd] at h
      exact h.mono fun _ _ ⟨a, b⟩ => ⟨a, b.symm⟩
    have hm := restLen_eq cs
    rw [hTs] at hm
    have HM := hid hm
    have HTd := hid hTd
    have HTs := hid hTs
    clear hTd hTs hm
    rcases byteIdx_cases 46 rest with ⟨h1, h2⟩ | ⟨k, h1, h2, h3, h4⟩
    · rw [h1] at hI
      have hlast := hid (splitAtC_last 46 rest h2)
      obtain ⟨fn, tmps, assign, body, hy, hR⟩ := hY pre rest wr hJs.out hlen1 (by show rest.length ≤ _; omega)
      unfold strS at hy
      rw [hT] at hy
      clear h1 h2 hT
      gi_wp2_with (refine ⟨trivial, ?_⟩; gi_at_call 80; refine (callsIn_wide.2 (hI _)).mono ?_; rintro e w' ⟨rfl, rfl⟩)
      refine hR.mono ?_
      rintro e W3 (⟨rfl, hJ3, hk3⟩ | ⟨rfl, hJx3⟩)
      · gi_wp2
        go_end0
        exact ⟨⟨_, rfl⟩, .inl ⟨_, by rw [hsplit.out, hlast.out], hJ3⟩⟩
      · gi_wp2
        go_end0
        exact ⟨⟨_, rfl⟩, .inr ⟨_, by rw [hsplit.out, hlast.out]; exact List.prefix_rfl, hJx3⟩⟩
    · rw [h1] at hI
      have hstep := hid (show splitAtC 46 rest = rest.take k :: splitAtC 46 (rest.drop (k + 1)) from by
        conv => lhs; rw [h3]
        exact splitAtC_cons 46 _ _ h4)
      obtain ⟨fn, tmps, assign, body, hy, hR⟩ := hY pre (rest.take k) wr hJs.out hlen1 (by show (rest.take k).length ≤ _; rw [List.length_take]; omega)
      unfold strS at hy
      obtain ⟨X1, hX1⟩ : ∃ X : ByteArray, (⟨(rest.take k).toArray⟩ : ByteArray) = X := ⟨_, rfl⟩
      obtain ⟨X2, hX2⟩ : ∃ X : ByteArray, (⟨(rest.drop (k + 1)).toArray⟩ : ByteArray) = X := ⟨_, rfl⟩
      have e1 : T.extract 0 k = X1 := by
        rw [← hX1]; apply str_inj; rw [ByteArray.data_extract, Array.toList_extract, HTd.out]; simp
      have e2 : T.extract (k + 1) T.size = X2 := by
        rw [← hX2]; apply str_inj; rw [ByteArray.data_extract, Array.toList_extract, HTd.out, HTs.out]; simp only [List.extract_eq_take_drop]; exact List.take_of_length_le (by simp)
      rw [hX1] at hy
      have hkT : k < T.size := by rw [HTs.out]; exact h2
      have hkTi : (k : Int) ≤ (T.size : Int) := by omega
      have hkTj : (k : Int) + 1 ≤ (T.size : Int) := by omega
      have hTmax : T.size ≤ 1000000 := by rw [HTs.out]; omega
      have HX2 := hid hX2
      have hdl : (rest.drop (k + 1)).length = rest.length - (k + 1) := List.length_drop
      have HDL := hid hdl
      clear h1 h3 h4 hT hX1 hX2 hdl
      gi_wp2_with (refine ⟨trivial, ?_⟩; gi_at_call 80; refine (callsIn_wide.2 (hI _)).mono ?_; rintro e w' ⟨rfl, rfl⟩)
      refine hR.mono ?_
      rintro e W3 (⟨rfl, hJ3, hk3⟩ | ⟨rfl, hJx3⟩)
      · have hb3 := hk3.1.trans hb.out
        have hp3 := hk3.2.1.trans hp.out
        have hv3 := hk3.2.2.trans hv.out
        have cs3 : W3.cell? ⟨sB, 0, none⟩ = some (.string T) := (World.cell?_of_block (w := wr) (a := ⟨sB, 0, none⟩) hk3.1).trans cs
        have cp3 : W3.cell? ⟨pB, 0, none⟩ = some (.string ⟨#[46]⟩) := (World.cell?_of_block (w := wr) (a := ⟨pB, 0, none⟩) hk3.2.1).trans cp
        have fs3 : W3.frozen? ⟨sB, 0, none⟩ = false := free_of_one hb3
        have J4 := hid (hJ _ _ _ _ hJ3 (grown_setCell W3 sB 0 (.string X2)) (fun r e => by cases e; exact .inl rfl))
        have hb4 := hid (one_setCell (u := .string X2) hb3)
        have hp4 := hid ((heap_setCell_other W3 ⟨sB, 0, none⟩ pB (.string X2) (Ne.symm hsp)).trans hp3)
        have hv4 := hid ((heap_setCell_other W3 ⟨sB, 0, none⟩ vB (.string X2) (Ne.symm hsv)).trans hv3)
        clear hb3 hp3 hv3 hJ3 hk3 cs cp cv fs hy hR
        gi_wp2
        go_roundw
        case rel =>
          refine ⟨_, _, _, _, _, _, _, _, _, _, _, _, _, _, _, _, _, _, _, _, _, _, ⟨pre ++ [rest.take k], rest.drop (k + 1), ?_, ?_, J4.out, ?_, hp4.out, hv4.out⟩, rfl⟩
          · show splitAtC 46 s = _
            rw [hsplit.out, hstep.out]; simp
          · rw [HDL.out, List.length_append, List.length_singleton]; rw [HTs.out] at hkT; omega
          · show _ = _
            rw [hb4.out, ← HX2.out]; rfl
        case measure =>
          rw [HM.out, restLen_eq (t := X2) (cell_of_one hb4.out), ← HX2.out]
          show (rest.drop (k + 1)).length < _
          rw [HDL.out]; rw [HTs.out] at hkT; omega
      · gi_wp2
        refine bodyPost_ret (results_none rfl _ _ _) rfl ?_
        refine ⟨⟨_, rfl⟩, .inr ⟨_, ?_, hJx3⟩⟩
        rw [hsplit.out, hstep.out]
        exact ⟨splitAtC 46 (rest.drop (k + 1)), by simp⟩

theorem split_seq (n : Nat) (hn : 1 ≤ n) (sB pB vB : Nat) (s : Bs) (hs : s.length ≤ 1000000) (hsp : sB ≠ pB) (hsv : sB ≠ vB) (w : World)
    (hB : w.heap[sB]? = some (.cells #[strS s] 9 (0, 0))) (hp : w.heap[pB]? = some (.cells #[strS [46]] 9 (0, 0))) (hv : w.heap[vB]? = some (.cells #[.int .i64 0] 3 (0, 0))) :
    SeqB n Tryz.prog 98 #[.pointer (some ⟨pB, 0, none⟩), .pointer (some ⟨sB, 0, none⟩), .pointer (some ⟨vB, 0, none⟩)] strS (KpS sB pB vB) (fun xs => xs = splitAtC 46 s) (fun pre => pre <+: splitAtC 46 s) (s.length + 1) sB w :=
  fun l J Jx W hW hJ hJx hY h0 => split1_in n hn l sB pB vB s hs hsp hsv J Jx W.heap.size hJ hY W ((hW.block sB (lt_of_block hB)).trans hB) ((hW.block pB (lt_of_block hp)).trans hp) ((hW.block vB (lt_of_block hv)).trans hv) h0

def partsV (k : Nat) : Value := .func (.func 98) #[] #[.pointer (some ⟨k + 1, 0, none⟩), .pointer (some ⟨k, 0, none⟩), .pointer (some ⟨k + 1 + 1, 0, none⟩)]
theorem splitSeq_any (S : ByteArray) (w : World) : Calls Tryz.prog 84 #[.string S, .string ⟨#[46]⟩, .int .i64 0] w fun e w' => e = .returned (partsV w.heap.size) ∧
    w' = ((w.alloc (.cells #[.string S] 9)).alloc (.cells #[.string ⟨#[46]⟩] 9)).alloc (.cells #[.int .i64 0] 3) := by
  go_enter Tryz.func84, Tryz.ntmps84
  go_wp2
  go_ret
  exact ⟨rfl, rfl⟩
theorem SplitSeq_any (S : ByteArray) (w : World) : Calls Tryz.prog 60 #[.string S, .string ⟨#[46]⟩] w fun e w' => e = .returned (partsV w.heap.size) ∧
    w' = ((w.alloc (.cells #[.string S] 9)).alloc (.cells #[.string ⟨#[46]⟩] 9)).alloc (.cells #[.int .i64 0] 3) := by
  go_enter Tryz.func60, Tryz.ntmps60
  go_wp2_with (go_at_call 84; refine (splitSeq_any _ _).mono ?_; rintro e w' ⟨rfl, rfl⟩)
  go_ret
  exact ⟨rfl, rfl⟩
section
variable {W W' : World} {row : Option Nat} {b B : Nat}
theorem heap_turnB {k : Nat} {c : Array Value} {e : TypeId} {f : Nat × Nat} (h : W.heap[k]? = some (.cells c e f)) (hg : W.grownBy W' row) (hk : k ≠ b)
    (hr : ∀ r, row = some r → r = b ∨ (B ≤ r ∧ ∃ o : Obj, W.heap[r]? = some o ∧ o.isCells = false)) : W'.heap[k]? = some (.cells c e f) := by
  refine (hg.block k (lt_of_block h) (fun e => ?_)).trans h
  rcases hr k e.symm with h' | ⟨_, o, ho, hc⟩
  · exact hk h'
  · rw [h] at ho; cases ho; simp [Obj.isCells] at hc
theorem Chg.turnB {w0 : World} (h : Chg [] w0 W) (hb : w0.heap.size ≤ b) (hB : w0.heap.size ≤ B) (hg : W.grownBy W' row)
    (hr : ∀ r, row = some r → r = b ∨ (B ≤ r ∧ ∃ o : Obj, W.heap[r]? = some o ∧ o.isCells = false)) : Chg [] w0 W' :=
  h.then (Chg.of_grownBy (L := row.toList) hg (fun k e => .inl (by simp [e]))) (fun i hi hlt => by
    rcases hr i (by simpa using hi) with h' | ⟨h', _⟩ <;> omega)
end

theorem words_split : ∀ s : Jb, wordsJ 46 s = splitAtC 46 s
  | [] => rfl
  | c :: t => by
    rw [wordsJ, splitAtC, words_split t]
    by_cases h : c = 46
    · subst h; simp
    · have : (c == 46) = false := by simpa using h
      rw [this, if_neg h]; rfl
theorem nm_calls (x : Jb) (hx : x.length ≤ 1000000000) (W : World) (hg : GcW W) : Calls Tryz.prog 22 #[.string ⟨x.toArray⟩] W fun e w' => e = .returned (.bool (nmJ x)) ∧ Chg [] W w' := by
  refine ((Name_spec x hx).run (fun _ _ => False) W [.string ⟨x.toArray⟩] (fun _ _ h => h.elim) ⟨fun h => h, hg⟩ ⟨_, _, rfl, rfl, rfl⟩).mono ?_
  rintro e w' ⟨v, rfl, hc, hr⟩
  have hr : v = .bool (nmJ x) := hr
  subst hr
  exact ⟨rfl, hc⟩
theorem gc_chg {w W : World} (h : GcW w) (hc : Chg [] w W) : GcW W := by
  obtain ⟨m, hm⟩ := h
  exact ⟨m, hc.cell hm (by simp)⟩
def keyM (s : Jb) (most : Int) : Bool := (splitAtC 46 s).all nmJ && decide (((splitAtC 46 s).length : Int) ≤ most)
theorem key_no (x : Jb) (s : Jb) (pre : List Jb) (most : Int) (h : nmJ x = false ∨ most < ((pre.length + 1 : Nat) : Int)) : pre ++ [x] <+: splitAtC 46 s → keyM s most = false := by
  intro hp
  unfold keyM
  rcases h with h | h
  · have : (splitAtC 46 s).all nmJ = false := by
      rw [List.all_eq_false]
      exact ⟨x, hp.subset (by simp), by simp [h]⟩
    rw [this, Bool.false_and]
  · have := hp.length_le
    rw [List.length_append, List.length_singleton] at this
    rw [decide_eq_false (by omega), Bool.and_false]
set_option maxRecDepth 100000 in
set_option maxHeartbeats 4000000 in
theorem isKey_any (S : ByteArray) (most : Int) (hS : S.size ≤ 1000000) (w : World) (hg : GcW w) : Calls Tryz.prog 43 #[.string S, .int .i64 most] w fun e w' => e = .returned (.bool (keyM S.data.toList most)) ∧ Chg [] w w' := by
  obtain ⟨s, hs⟩ : ∃ s, s = S.data.toList := ⟨_, rfl⟩
  have hlen : s.length ≤ 1000000 := by rw [hs]; simp; omega
  have hS : strS s = .string S := by unfold strS; rw [hs, bs_of]
  obtain ⟨R, hR⟩ : ∃ R, keyM S.data.toList most = R := ⟨_, rfl⟩
  have HR := hid (show keyM s most = R from by rw [hs]; exact hR)
  rw [hR]
  clear hR hs
  have HS := hid hS
  clear hS
  refine (callsIn_wide (n := 7)).1 ?_
  refine callsIn_of_wp_marks Tryz.func43 rfl trivial ?_ rfl
  simp only [Tryz.ntmps43, List.size_toArray, List.length_cons, List.length_nil, Nat.reduceAdd, Nat.reduceSub, Array.replicate_succ, Array.replicate_zero, List.push_toArray, List.append_toArray, List.nil_append, List.cons_append]
  refine wpIn_wide.2 ?_
  go_wp2_with (go_at_call 60; refine (SplitSeq_any _ _).mono ?_; rintro e w' ⟨rfl, rfl⟩)
  unfold partsV
  have hr0 : ((((((w.alloc (.cells #[.int .i64 most] 3)).alloc (.cells #[.bool false] 4)).alloc (.cells #[.int .i64 0] 3)).alloc (.cells #[.string S] 9)).alloc (.cells #[.string ⟨#[46]⟩] 9)).alloc (.cells #[.int .i64 0] 3)).heap[w.heap.size]? = some (.cells #[.int .i64 most] 3 (0, 0)) := al_old (al_old (al_old (al_old (al_old (al_new rfl)))))
  have hq0 : ((((((w.alloc (.cells #[.int .i64 most] 3)).alloc (.cells #[.bool false] 4)).alloc (.cells #[.int .i64 0] 3)).alloc (.cells #[.string S] 9)).alloc (.cells #[.string ⟨#[46]⟩] 9)).alloc (.cells #[.int .i64 0] 3)).heap[w.heap.size + 1]? = some (.cells #[.bool false] 4 (0, 0)) := al_old (al_old (al_old (al_old (al_new (by simp)))))
  have hn0 : ((((((w.alloc (.cells #[.int .i64 most] 3)).alloc (.cells #[.bool false] 4)).alloc (.cells #[.int .i64 0] 3)).alloc (.cells #[.string S] 9)).alloc (.cells #[.string ⟨#[46]⟩] 9)).alloc (.cells #[.int .i64 0] 3)).heap[w.heap.size + 1 + 1]? = some (.cells #[.int .i64 0] 3 (0, 0)) := al_old (al_old (al_old (al_new (by simp))))
  have hb0 : ((((((w.alloc (.cells #[.int .i64 most] 3)).alloc (.cells #[.bool false] 4)).alloc (.cells #[.int .i64 0] 3)).alloc (.cells #[.string S] 9)).alloc (.cells #[.string ⟨#[46]⟩] 9)).alloc (.cells #[.int .i64 0] 3)).heap[w.heap.size + 1 + 1 + 1]? = some (.cells #[strS s] 9 (0, 0)) := by rw [HS.out]; exact al_old (al_old (al_new (by simp)))
  have hp0 : ((((((w.alloc (.cells #[.int .i64 most] 3)).alloc (.cells #[.bool false] 4)).alloc (.cells #[.int .i64 0] 3)).alloc (.cells #[.string S] 9)).alloc (.cells #[.string ⟨#[46]⟩] 9)).alloc (.cells #[.int .i64 0] 3)).heap[w.heap.size + 1 + 1 + 1 + 1]? = some (.cells #[strS [46]] 9 (0, 0)) := al_old (al_new (by simp))
  have hv0 : ((((((w.alloc (.cells #[.int .i64 most] 3)).alloc (.cells #[.bool false] 4)).alloc (.cells #[.int .i64 0] 3)).alloc (.cells #[.string S] 9)).alloc (.cells #[.string ⟨#[46]⟩] 9)).alloc (.cells #[.int .i64 0] 3)).heap[w.heap.size + 1 + 1 + 1 + 1 + 1]? = some (.cells #[.int .i64 0] 3 (0, 0)) := al_new (by simp)
  have hc0 : Chg [] w ((((((w.alloc (.cells #[.int .i64 most] 3)).alloc (.cells #[.bool false] 4)).alloc (.cells #[.int .i64 0] 3)).alloc (.cells #[.string S] 9)).alloc (.cells #[.string ⟨#[46]⟩] 9)).alloc (.cells #[.int .i64 0] 3)) := (((((Chg.alloc _ _ _).trans (Chg.alloc _ _ _)).trans (Chg.alloc _ _ _)).trans (Chg.alloc _ _ _)).trans (Chg.alloc _ _ _)).trans (Chg.alloc _ _ _)
  have hz0 : ((((((w.alloc (.cells #[.int .i64 most] 3)).alloc (.cells #[.bool false] 4)).alloc (.cells #[.int .i64 0] 3)).alloc (.cells #[.string S] 9)).alloc (.cells #[.string ⟨#[46]⟩] 9)).alloc (.cells #[.int .i64 0] 3)).heap.size = w.heap.size + 6 := by simp
  generalize (((((w.alloc (.cells #[.int .i64 most] 3)).alloc (.cells #[.bool false] 4)).alloc (.cells #[.int .i64 0] 3)).alloc (.cells #[.string S] 9)).alloc (.cells #[.string ⟨#[46]⟩] 9)).alloc (.cells #[.int .i64 0] 3) = W0 at *
  have hlt0 : w.heap.size + 6 ≤ W0.heap.size := by omega
  clear hz0
  refine rangeB 6 6 (w.heap.size + 1 + 1 + 1) (by omega) rfl (enters_of Tryz.func98 (by kernel_rfl) rfl) strS (by omega)
    (split_seq 5 (by omega) (w.heap.size + 1 + 1 + 1) (w.heap.size + 1 + 1 + 1 + 1) (w.heap.size + 1 + 1 + 1 + 1 + 1) s (by omega) (by omega) (by omega) W0 hb0 hp0 hv0)
    (fun h k => h.trans k) (KpS.put (by omega) (by omega) (by omega))
    (fun pre W => (∀ x ∈ pre, nmJ x = true) ∧ ((pre.length : Int) ≤ most ∨ pre = []) ∧ W.heap[w.heap.size]? = some (.cells #[.int .i64 most] 3 (0, 0)) ∧ W.heap[w.heap.size + 1]? = some (.cells #[.bool false] 4 (0, 0)) ∧ W.heap[w.heap.size + 1 + 1]? = some (.cells #[.int .i64 (pre.length : Int)] 3 (0, 0)) ∧ Chg [] w W ∧ w.heap.size + 6 ≤ W.heap.size)
    (fun c pre W => c = .ret ∧ (pre <+: splitAtC 46 s → keyM s most = false) ∧ W.heap[w.heap.size + 1]? = some (.cells #[.bool false] 4 (0, 0)) ∧ Chg [] w W ∧ w.heap.size + 6 ≤ W.heap.size)
    (fun p W W' row hs hg hr => ⟨hs.1, hs.2.1, heap_turnB hs.2.2.1 hg (by omega) hr, heap_turnB hs.2.2.2.1 hg (by omega) hr, heap_turnB hs.2.2.2.2.1 hg (by omega) hr, hs.2.2.2.2.2.1.turnB (by omega) (by omega) hg hr, Nat.le_trans hs.2.2.2.2.2.2 hg.size⟩)
    (fun c p W W' row hs hg hr => ⟨hs.1, hs.2.1, heap_turnB hs.2.2.1 hg (by omega) hr, hs.2.2.2.1.turnB (by omega) (by omega) hg hr, Nat.le_trans hs.2.2.2.2 hg.size⟩)
    ⟨by simp, .inr rfl, hr0, hq0, hn0, hc0, hlt0⟩ ?assign ?body ?done ?stop
  case assign =>
    intro l x W K hK
    simp only [frameB, List.setIfInBounds_toArray, List.set_cons_succ, List.set_cons_zero] at hK
    gi_wp2
    exact hK
  case body =>
    rintro l pre x W ⟨hall, hle, hr, hq, hn, hc, hsz⟩ hlen2 hsv
    have hxs : x.length ≤ 1000000000 := by have hsv : x.length ≤ s.length + 1 := hsv; omega
    simp only [frameB, List.setIfInBounds_toArray, List.set_cons_succ, List.set_cons_zero]
    have c3 := cell_of_one hr
    have c4 := cell_of_one hq
    have c5 := cell_of_one hn
    have f4 := free_of_one hq
    have f5 := free_of_one hn
    unfold strS
    clear hr0 hq0 hn0 hb0 hp0 hv0 hc0 hlt0
    have hlI : (pre.length : Int) ≤ 1000001 := by omega
    have hl0 : (0 : Int) ≤ (pre.length : Int) := by omega
    have g5 : (W.setCell ⟨w.heap.size + 1 + 1, 0, none⟩ (.int .i64 ((pre.length : Int) + 1))).cell? ⟨w.heap.size + 1 + 1, 0, none⟩ = some (.int .i64 ((pre.length : Int) + 1)) := cell_of_one (one_setCell hn)
    have g3 : (W.setCell ⟨w.heap.size + 1 + 1, 0, none⟩ (.int .i64 ((pre.length : Int) + 1))).cell? ⟨w.heap.size, 0, none⟩ = some (.int .i64 most) := cell_of_one ((heap_setCell_other W ⟨w.heap.size + 1 + 1, 0, none⟩ w.heap.size _ (by simp; omega)).trans hr)
    have h4 : (W.setCell ⟨w.heap.size + 1 + 1, 0, none⟩ (.int .i64 ((pre.length : Int) + 1))).heap[w.heap.size + 1]? = some (.cells #[.bool false] 4 (0, 0)) := (heap_setCell_other W ⟨w.heap.size + 1 + 1, 0, none⟩ (w.heap.size + 1) _ (by simp)).trans hq
    have g4 := cell_of_one h4
    have e4 := free_of_one h4
    have hC1 : Chg [] w (W.setCell ⟨w.heap.size + 1 + 1, 0, none⟩ (.int .i64 ((pre.length : Int) + 1))) := hc.then (Chg.setCell (L := [w.heap.size + 1 + 1]) (p := ⟨w.heap.size + 1 + 1, 0, none⟩) W (.inl (by simp)) (.int .i64 ((pre.length : Int) + 1))) (by simp; omega)
    have hG : GcW (W.setCell ⟨w.heap.size + 1 + 1, 0, none⟩ (.int .i64 ((pre.length : Int) + 1))) := gc_chg hg hC1
    have h3 : (W.setCell ⟨w.heap.size + 1 + 1, 0, none⟩ (.int .i64 ((pre.length : Int) + 1))).heap[w.heap.size]? = some (.cells #[.int .i64 most] 3 (0, 0)) := (heap_setCell_other W ⟨w.heap.size + 1 + 1, 0, none⟩ w.heap.size _ (by simp; omega)).trans hr
    have h5 : (W.setCell ⟨w.heap.size + 1 + 1, 0, none⟩ (.int .i64 ((pre.length : Int) + 1))).heap[w.heap.size + 1 + 1]? = some (.cells #[.int .i64 ((pre.length : Int) + 1)] 3 (0, 0)) := one_setCell hn
    have hk1 : KeepsOthers W (W.setCell ⟨w.heap.size + 1 + 1, 0, none⟩ (.int .i64 ((pre.length : Int) + 1))) := KeepsOthers.setCell _ _ _
    have hs1 : (W.setCell ⟨w.heap.size + 1 + 1, 0, none⟩ (.int .i64 ((pre.length : Int) + 1))).heap.size = W.heap.size := by simp
    have hkp1 : KpS (w.heap.size + 1 + 1 + 1) (w.heap.size + 1 + 1 + 1 + 1) (w.heap.size + 1 + 1 + 1 + 1 + 1) W (W.setCell ⟨w.heap.size + 1 + 1, 0, none⟩ (.int .i64 ((pre.length : Int) + 1))) := ⟨heap_setCell_other W ⟨w.heap.size + 1 + 1, 0, none⟩ _ _ (by show ¬ _ = _; dsimp only; omega), heap_setCell_other W ⟨w.heap.size + 1 + 1, 0, none⟩ _ _ (by show ¬ _ = _; dsimp only; omega), heap_setCell_other W ⟨w.heap.size + 1 + 1, 0, none⟩ _ _ (by show ¬ _ = _; dsimp only; omega)⟩
    have hlp : ((pre ++ [x]).length : Int) = (pre.length : Int) + 1 := by simp
    have HH := hid (And.intro hall (And.intro hle (And.intro hC1 (And.intro hG (And.intro h3 (And.intro h4 (And.intro h5 (And.intro hk1 (And.intro hs1 (And.intro hkp1 (And.intro hsz hlp)))))))))))
    have HX := hid (nm_calls x hxs)
    clear hall hle hC1 hG h3 h4 h5 hk1 hs1 hkp1 hr hq hn hc hlen2 hsv hxs hlp
    have fin : ∀ W', Chg [] (W.setCell ⟨w.heap.size + 1 + 1, 0, none⟩ (.int .i64 ((pre.length : Int) + 1))) W' → (nmJ x = false ∨ most < (pre.length : Int) + 1) → ownPostK (KpS (w.heap.size + 1 + 1 + 1) (w.heap.size + 1 + 1 + 1 + 1) (w.heap.size + 1 + 1 + 1 + 1 + 1))
        (fun pre W => (∀ x ∈ pre, nmJ x = true) ∧ ((pre.length : Int) ≤ most ∨ pre = []) ∧ W.heap[w.heap.size]? = some (.cells #[.int .i64 most] 3 (0, 0)) ∧ W.heap[w.heap.size + 1]? = some (.cells #[.bool false] 4 (0, 0)) ∧ W.heap[w.heap.size + 1 + 1]? = some (.cells #[.int .i64 (pre.length : Int)] 3 (0, 0)) ∧ Chg [] w W ∧ w.heap.size + 6 ≤ W.heap.size)
        (fun c pre W => c = .ret ∧ (pre <+: splitAtC 46 s → keyM s most = false) ∧ W.heap[w.heap.size + 1]? = some (.cells #[.bool false] 4 (0, 0)) ∧ Chg [] w W ∧ w.heap.size + 6 ≤ W.heap.size)
        (pre ++ [x]) W .ret { tmps := #[], defers := [] } (W'.setCell ⟨w.heap.size + 1, 0, none⟩ (.bool false)) := by
      intro W' hW hno
      obtain ⟨hall, hle, hC1, hG, h3, h4, h5, hk1, hs1, hkp1, hsz, hlp⟩ := HH.out
      have hk3 : W'.heap[w.heap.size + 1]? = some (.cells #[.bool false] 4 (0, 0)) := hW.heap h4 (by simp)
      refine ⟨(hk1.trans (keeps_chg hW)).trans (KeepsOthers.setCell _ _ _), rfl, key_no x s pre most (by push_cast; exact hno), one_setCell hk3, (hC1.trans hW).then (Chg.setCell (L := [w.heap.size + 1]) (p := ⟨w.heap.size + 1, 0, none⟩) _ (.inl (by simp)) _) (by simp), ?_⟩
      have := hW.size
      simp; omega
    have HF := hid fin
    clear fin
    by_cases h1 : most < (pre.length : Int) + 1
    · gi_wp2_with (refine ⟨trivial, ?_⟩)
      exact HF.out _ (Chg.refl _ _) (.inr h1)
    · cases hnx : nmJ x
      · have HN := hid hnx
        have c9 := HX.out
        rw [hnx] at c9
        have hG := HH.out.2.2.2.1
        clear hnx
        gi_wp2_with (refine ⟨trivial, ?_⟩; gi_at_call 22; refine (CallsIn.inRound l (callsIn_wide.2 (c9 _ hG))).mono ?_; rintro e w' ⟨rfl, hcw⟩; have c0' := hcw.cell g4 (by simp); have f0' := free_of_one (hcw.heap HH.out.2.2.2.2.2.1 (by simp)))
        exact HF.out _ hcw (.inl HN.out)
      · have HN := hid hnx
        have c9 := HX.out
        rw [hnx] at c9
        have hG := HH.out.2.2.2.1
        clear hnx
        gi_wp2_with (refine ⟨trivial, ?_⟩; gi_at_call 22; refine (CallsIn.inRound l (callsIn_wide.2 (c9 _ hG))).mono ?_; rintro e w' ⟨rfl, hcw⟩)
        obtain ⟨hall, hle, hC1, hG, h3, h4, h5, hk1, hs1, hkp1, hsz, hlp⟩ := HH.out
        have hz := hcw.size
        refine ⟨hk1.trans (keeps_chg hcw), hkp1.trans (KpS.of_chg hcw (by simp) (by simp) (by simp) (by omega) (by omega) (by omega)), ?_, .inl (by rw [hlp]; omega), hcw.heap h3 (by simp), hcw.heap h4 (by simp), by rw [hlp]; exact hcw.heap h5 (by simp), hC1.trans hcw, by omega⟩
        intro y hy
        rcases List.mem_append.1 hy with h | h
        · exact hall y h
        · rw [List.mem_singleton.1 h]; exact HN.out
  case done =>
    rintro D xs W hD rfl ⟨hall, hle, hr2, hr, hn, hc, hsz⟩ hK
    have hyes : keyM s most = true := by
      unfold keyM
      rw [List.all_eq_true.2 hall, Bool.true_and]
      rcases hle with h | h
      · exact decide_eq_true h
      · exact absurd h (splitAtC_ne 46 s)
    obtain rfl : R = true := HR.out.symm.trans hyes
    have c0 := cell_of_one hr
    have f0 := free_of_one hr
    have HK := hid hK
    have HC := hid hc
    have HR0 := hid hr
    clear hyes hall hle hr2 hn hr0 hq0 hn0 hb0 hp0 hv0 hc0 hK hc hr
    go_wp2_with (fail)
    have hk3 : (W.setCell ⟨w.heap.size + 1, 0, none⟩ (.bool true)).heap[D]? = some (.deferred (some [])) := (heap_setCell_other W ⟨w.heap.size + 1, 0, none⟩ D (.bool true) (by simp; omega)).trans HK.out
    have hr3 := one_setCell (u := .bool true) HR0.out
    have hc3 := HC.out.then (Chg.setCell (L := [w.heap.size + 1]) (p := ⟨w.heap.size + 1, 0, none⟩) W (.inl (by simp)) (.bool true)) (by simp)
    generalize W.setCell ⟨w.heap.size + 1, 0, none⟩ (.bool true) = W3 at *
    have q0 := heap_turnB (b := D) (B := D) hr3 (grownBy_putObj' W3 D (.deferred none)) (by omega) (fun r e => by cases e; exact .inl rfl)
    have q1 := cell_of_one q0
    refine ⟨by simp, .inl ⟨_, _, rfl, run_takeDeferred hk3, ?_⟩⟩
    refine ⟨.bool true, ?_, rfl, ?_⟩
    · simp [results, Tryz.f43, go_sem, q1]
    · exact hc3.then (Chg.of_grownBy (L := [D]) (grownBy_putObj' W3 D (.deferred none)) (fun k e => by cases e; exact .inl (by simp))) (by simp; omega)
  case stop =>
    rintro D c pre W hD hpre ⟨rfl, hno, hr, hc, hsz⟩ hK
    obtain rfl : R = false := HR.out.symm.trans (hno hpre)
    have HK := hid hK
    have HC := hid hc
    have HR0 := hid hr
    clear hno hr0 hq0 hn0 hb0 hp0 hv0 hc0 hK hc hr
    go_wp2_with (fail)
    have q0 := heap_turnB (b := D) (B := D) HR0.out (grownBy_putObj' W D (.deferred none)) (by omega) (fun r e => by cases e; exact .inl rfl)
    have q1 := cell_of_one q0
    refine ⟨by simp, .inl ⟨_, _, rfl, run_takeDeferred HK.out, ?_⟩⟩
    refine ⟨.bool false, ?_, rfl, ?_⟩
    · simp [results, Tryz.f43, go_sem, q1]
    · exact HC.out.then (Chg.of_grownBy (L := [D]) (grownBy_putObj' W D (.deferred none)) (fun k e => by cases e; exact .inl (by simp))) (by simp; omega)
theorem isKey_spec (s : Jb) (most : Int) (hs : s.length ≤ 1000000) : Spec Tryz.prog 43 [.str s, .int .i64 most] (.bool (keyM s most)) :=
  ⟨⟨_, Tryz.func43, rfl, by decide⟩, rfl, fun M w vs hM hG h => by
    obtain ⟨u, v, rfl, rfl, rfl⟩ := repL2 h
    refine (isKey_any ⟨s.toArray⟩ most hs w hG.2).mono ?_
    rintro e w' ⟨rfl, hc⟩
    exact ⟨_, rfl, hc, rfl⟩⟩
theorem split_nm : ∀ s : Jb, (splitAtC 46 s).all nmJ = true → 2 * (splitAtC 46 s).length ≤ s.length + 1
  | [], h => by simp [splitAtC, nmJ] at h
  | c :: t, h => by
    rw [splitAtC] at h ⊢
    split
    · rename_i hc
      rw [if_pos hc] at h
      simp [nmJ] at h
    · rename_i hc
      rw [if_neg hc] at h
      split
      · rename_i h2; exact absurd h2 (splitAtC_ne 46 t)
      · rename_i p ps h2
        rw [h2] at h
        simp only [List.all_cons, Bool.and_eq_true] at h
        -- the pieces behind the first
        have key : ∀ t : Jb, ∀ p ps, splitAtC 46 t = p :: ps → ps.all nmJ = true → p.length + 2 * ps.length ≤ t.length := by
          intro t
          induction t with
          | nil => intro p ps e _; simp [splitAtC] at e; obtain ⟨rfl, rfl⟩ := e; simp
          | cons d t ih =>
            intro p ps e ha
            rw [splitAtC] at e
            split at e
            · injection e with e1 e2
              subst e1
              cases hq : splitAtC 46 t with
              | nil => exact absurd hq (splitAtC_ne 46 t)
              | cons q qs =>
                rw [hq] at e2; subst e2
                simp only [List.all_cons, Bool.and_eq_true] at ha
                have := ih q qs hq ha.2
                have hq1 : 1 ≤ q.length := ((nmJ_iff q).1 ha.1).1
                simp only [List.length_nil, List.length_cons]; omega
            · cases hq : splitAtC 46 t with
              | nil => exact absurd hq (splitAtC_ne 46 t)
              | cons q qs =>
                rw [hq] at e
                injection e with e1 e2
                subst e1; subst e2
                have := ih q qs hq ha
                simp only [List.length_cons]; omega
        have := key t p ps h2 h.2
        simp only [List.length_cons]; omega
theorem keyM_all (s : Jb) (most : Int) (h : (s.length : Int) ≤ most) : keyM s most = keyJ s := by
  unfold keyM keyJ
  rw [words_split]
  cases ha : (splitAtC 46 s).all nmJ with
  | false => rfl
  | true =>
    have := split_nm s ha
    have h1 : 1 ≤ (splitAtC 46 s).length := by
      have := splitAtC_ne 46 s
      cases hq : splitAtC 46 s with
      | nil => exact absurd hq this
      | cons => simp
    rw [decide_eq_true (by omega)]; rfl
theorem keyM_two (s : Jb) : keyM s 2 = (keyJ s && decide ((wordsJ 46 s).length ≤ 2)) := by
  unfold keyM keyJ
  rw [words_split]
  congr 1
  apply decide_eq_decide.2; omega
theorem repl_skip (c : UInt8) (t : Jb) (h : List.isPrefixOf [39, 39] (c :: t) = false) : Lib.replaceAll (c :: t) [39, 39] [39] = c :: Lib.replaceAll t [39, 39] [39] := by
  have e : ∀ s : Jb, Lib.replaceAll s [39, 39] [39] = Lib.replaceK [39, 39] [39] (Lib.count s [39, 39]) s := fun s => rfl
  rw [e, e]
  have hi : Lib.index (c :: t) [39, 39] = if Lib.index t [39, 39] == -1 then -1 else Lib.index t [39, 39] + 1 := by
    show (if List.isPrefixOf [39, 39] (c :: t) then (0 : Int) else _) = _
    rw [h]; rfl
  rcases Lib.index_spec t [39, 39] with ⟨h1, _⟩ | ⟨i, h1, _, _, _⟩
  · rw [h1] at hi
    have hi : Lib.index (c :: t) [39, 39] = -1 := hi
    rw [Lib.count_miss hi, Lib.count_miss h1]; rfl
  · rw [h1] at hi
    have hi : Lib.index (c :: t) [39, 39] = ((i + 1 : Nat) : Int) := by
      rw [hi, if_neg (by rw [beq_iff_eq]; omega)]; rfl
    have hd : (c :: t).drop (i + 1 + 2) = t.drop (i + 2) := by rw [show i + 1 + 2 = (i + 2) + 1 by omega, List.drop_succ_cons]
    rw [Lib.count_hit (by simp) hi, Lib.count_hit (by simp) h1]
    show Lib.replaceK [39, 39] [39] (1 + Lib.count ((c :: t).drop (i + 1 + 2)) _) (c :: t) = c :: Lib.replaceK [39, 39] [39] (1 + Lib.count (t.drop (i + 2)) _) t
    rw [hd, Nat.add_comm 1, Lib.replaceK_hit _ _ _ _ _ hi, Lib.replaceK_hit _ _ _ _ _ h1]
    show (c :: t).take (i + 1) ++ [39] ++ Lib.replaceK _ _ _ ((c :: t).drop (i + 1 + 2)) = c :: (t.take i ++ [39] ++ Lib.replaceK _ _ _ (t.drop (i + 2)))
    rw [hd]; simp
theorem repl_hit (t : Jb) : Lib.replaceAll (39 :: 39 :: t) [39, 39] [39] = 39 :: Lib.replaceAll t [39, 39] [39] := by
  have e : ∀ s : Jb, Lib.replaceAll s [39, 39] [39] = Lib.replaceK [39, 39] [39] (Lib.count s [39, 39]) s := fun s => rfl
  rw [e, e]
  have hi : Lib.index (39 :: 39 :: t) [39, 39] = ((0 : Nat) : Int) := by
    show (if List.isPrefixOf [39, 39] (39 :: 39 :: t) then (0 : Int) else _) = _
    simp [List.isPrefixOf]
  rw [Lib.count_hit (by simp) hi]
  show Lib.replaceK [39, 39] [39] (1 + Lib.count t _) _ = _
  rw [Nat.add_comm 1, Lib.replaceK_hit _ _ _ _ _ hi]
  rfl
theorem unqJ_skip (c : UInt8) (t : Jb) (h : ∀ u, c = 39 → t ≠ 39 :: u) : unqJ (c :: t) = c :: unqJ t := by
  conv => lhs; unfold unqJ
  split
  · rename_i h1; injection h1 with e1 e2; exact absurd e2 (h _ e1)
  · rename_i h1; injection h1 with e1 e2; subst e1; subst e2; rfl
  · rename_i h1; cases h1
theorem repl_unq : ∀ s : Jb, Lib.replaceAll s [39, 39] [39] = unqJ s
  | [] => rfl
  | [c] => by rw [repl_skip c [] (by simp [List.isPrefixOf]), repl_unq []]; rw [unqJ_skip c [] (fun _ _ h => by cases h)]
  | c :: d :: t => by
    by_cases h : c = 39 ∧ d = 39
    · obtain ⟨rfl, rfl⟩ := h
      rw [repl_hit, repl_unq t]; rfl
    · rw [repl_skip c (d :: t) (by
        by_cases hc : c = 39
        · subst hc
          have hd : ¬ d = 39 := fun e => h ⟨rfl, e⟩
          simp [List.isPrefixOf]; exact fun e => hd e.symm
        · simp [List.isPrefixOf]; intro e; exact absurd e.symm hc), repl_unq (d :: t)]
      rw [unqJ_skip c (d :: t) (fun u hc e => by injection e with e1 e2; exact h ⟨hc, e1⟩)]
theorem ReplaceAll_spec (s : Jb) (hs : s.length ≤ 1000000) : Spec Tryz.prog 42 [.str s, .str [39, 39], .str [39]] (.str (unqJ s)) :=
  ⟨⟨_, Tryz.func42, rfl, by decide⟩, rfl, fun M w vs hM hG h => by
    obtain ⟨u, v, t, rfl, rfl, rfl, rfl⟩ := repL3 h
    obtain ⟨m, hm⟩ := hG.2
    have hle := Lib.count_le s [39, 39]
    refine (Tryz.strings_ReplaceAll ⟨s.toArray⟩ ⟨#[39, 39]⟩ ⟨#[39]⟩ m w (by show s.length < _; omega) hm (by decide) (by
      show s.length + Lib.count s [39, 39] * 1 ≤ _; omega)).mono ?_
    rintro e w' ⟨rfl, hb⟩
    refine ⟨_, rfl, Chg.of_below hb [], ?_⟩
    show Value.string _ = _
    rw [show Lib.replaceAll (⟨s.toArray⟩ : ByteArray).data.toList (⟨#[39, 39]⟩ : ByteArray).data.toList (⟨#[39]⟩ : ByteArray).data.toList = unqJ s from repl_unq s]⟩
theorem IndexByte_spec (s : Jb) : Spec Tryz.prog 74 [.str s, .int .u8 32] (.int .i64 (Lib.indexByte s 32)) :=
  ⟨⟨_, Tryz.func74, rfl, by decide⟩, rfl, fun M w vs hM hG h => by
    obtain ⟨u, v, rfl, rfl, rfl⟩ := repL2 h
    refine (Tryz.strings_IndexByte ⟨s.toArray⟩ 32 w).mono ?_
    rintro e w' ⟨rfl, rfl⟩
    exact ⟨_, rfl, Chg.refl _ _, rfl⟩⟩
theorem cut_none (s : Jb) (h : ∀ x ∈ s, x ≠ 32) : s.takeWhile (· != 32) = s ∧ s.dropWhile (· != 32) = [] := by
  induction s with
  | nil => exact ⟨rfl, rfl⟩
  | cons c t ih =>
    have hc : (c != 32) = true := by simpa using h c List.mem_cons_self
    obtain ⟨h1, h2⟩ := ih (fun x hx => h x (List.mem_cons_of_mem _ hx))
    rw [List.takeWhile_cons, List.dropWhile_cons, hc]
    exact ⟨by simp [h1], by simpa using h2⟩
theorem cut_some : ∀ (p t : Jb), (∀ x ∈ p, x ≠ 32) → (p ++ 32 :: t).takeWhile (· != 32) = p ∧ (p ++ 32 :: t).dropWhile (· != 32) = 32 :: t
  | [], t, _ => ⟨by simp, by simp⟩
  | c :: p, t, h => by
    have hc : (c != 32) = true := by simpa using h c List.mem_cons_self
    obtain ⟨h1, h2⟩ := cut_some p t (fun x hx => h x (List.mem_cons_of_mem _ hx))
    rw [List.cons_append, List.takeWhile_cons, List.dropWhile_cons, hc]
    exact ⟨by simp [h1], by simpa using h2⟩
end Go.Proofs.YtnaljgmcpagbbaaGreatDoor
