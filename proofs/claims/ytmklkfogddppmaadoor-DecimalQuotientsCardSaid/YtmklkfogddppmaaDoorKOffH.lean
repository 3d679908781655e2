/- A loop over an iterator of one variable, in a function at the wide fence. -/
import Derived.RangeFuncFrom
import Derived.Laws.EntriesVeiled
import Derived.StillTailTactics
import Derived.Test.YtmklkfogddppmaaDoorKIter
import Derived.Test.YtmklkfogddppmaaDoorKPackH
namespace Go.Proofs.YtmklkfogddppmaaDoor
open Go.RowKit Go.Shelf

/-- The frame in a round: the parameter's slot p, the variable's slot q. -/
def actAt (a : Act) (p q : Nat) (v : Value) : Act := { tmps := (a.tmps.setIfInBounds p v).setIfInBounds q v, defers := [] }

theorem rangeF1 {P : Program} {α : Type} {g : Operand} {p : Nat} {assign body : Code} {Q : Exit → Act → World → Prop} {a : Act} {w : World} (q : Nat) (n : Nat)
    (h1 : 1 ≤ n) {gf : Nat} {lb : Array Value} (hg : a.eval g = .func (.func gf) #[] lb) (eg : ∀ args w, (callFunc gf args).run P w = .ok (.enter gf args) w)
    (enc : α → Value) {Kp : World → World → Prop} {S Sp : List α → Prop} {N : Nat} (hseq : SeqStopsK Fence.wide (n - 1) P gf lb (fun x => #[enc x]) Kp S Sp N w)
    (hKt : ∀ {A B C : World}, Kp A B → Kp B C → Kp A C) (hKb : ∀ (W : World) (l : Nat) (o o' : Obj), w.heap.size ≤ l → W.heap[l]? = some o → o.isCells = false → o.isWalk = false → Kp W (W.putObj l o'))
    (I : List α → World → Prop) (Ix : Code → List α → World → Prop) (hI : OwnFrom w.heap.size I) (hIx : ∀ c, OwnFrom w.heap.size (Ix c)) (h0 : I [] w)
    (hassign : ∀ (l : Nat) (x : α) (W : World) (K : Act → World → Prop), K (actAt a p q (enc x)) W →
      assign.wpIn (Fence.wide.inRound l) (n - 1 - 1) P (Exit.then K (fun _ _ _ => False)) { tmps := a.tmps.setIfInBounds p (enc x), defers := [] } W)
    (hbody : ∀ (l : Nat) (pre : List α) (x : α) (W : World), I pre W → pre.length < N → body.wpIn (Fence.wide.inRound l) (n - 1 - 1) P (ownPostK Kp I Ix (pre ++ [x]) W) (actAt a p q (enc x)) W)
    (hdone : ∀ (D : Nat) (xs : List α) (W : World), w.heap.size ≤ D → S xs → I xs W → W.heap[D]? = some (.deferred (some [])) → Q .normal { a with defers := { target := .collected D, args := #[] } :: a.defers } W)
    (hstop : ∀ (D : Nat) (c : Code) (pre : List α) (W : World), w.heap.size ≤ D → Sp pre → Ix c pre W → W.heap[D]? = some (.deferred (some [])) → c.wp P Q { a with defers := { target := .collected D, args := #[] } :: a.defers } W) :
    (Code.rangeFunc g #[p] assign body).wp P Q a w :=
  (wpIn_wide (n := n)).1 (wpIn_rangeFunc_ownF (F := Fence.wide) (n := n) rfl h1 hg trivial eg hseq hKt hKb (Below.refl _ _) (fun _ => rfl) I Ix hI hIx h0 (fun x => actAt a p q (enc x))
    (fun l x W K hK => by simpa using hassign l x W K hK) hbody hdone (fun D c pre W h h2 h3 h4 => wpIn_wide.2 (hstop D c pre W h h2 h3 h4)))

/-- A row of cells is no block that the loop's book-keeping turns. -/
theorem heap_turn {W W' : World} {row : Option Nat} {B k : Nat} {c : Array Value} {e : TypeId} {f : Nat × Nat} (h : W.heap[k]? = some (.cells c e f)) (hg : W.grownBy W' row)
    (hr : ∀ r, row = some r → B ≤ r ∧ ∃ o : Obj, W.heap[r]? = some o ∧ o.isCells = false) : W'.heap[k]? = some (.cells c e f) := by
  refine (hg.block k (lt_of_block h) (fun e => ?_)).trans h
  obtain ⟨_, o, ho, hc⟩ := hr k e.symm
  rw [h] at ho; cases ho; simp [Obj.isCells] at hc
theorem Chg.turn {w0 W W' : World} {row : Option Nat} {B : Nat} (h : Chg [] w0 W) (hB : w0.heap.size ≤ B) (hg : W.grownBy W' row)
    (hr : ∀ r, row = some r → B ≤ r ∧ ∃ o : Obj, W.heap[r]? = some o ∧ o.isCells = false) : Chg [] w0 W' :=
  h.then (Chg.of_grownBy (L := row.toList) hg (fun k e => .inl (by simp [e]))) (fun i hi hlt => by
    have := (hr i (by simpa using hi)).1; omega)
/-- What is kept when blocks of cells alone are written. -/
theorem KeepsOthers.of_chg_cells {L : List Nat} {W W' : World} (h : Chg L W W') (hL : ∀ k ∈ L, ∃ c e f, W.heap[k]? = some (.cells c e f)) : KeepsOthers W W' :=
  ⟨h.size, fun k o hk ho => h.heap hk (fun hm => by
    obtain ⟨c, e, f, hc⟩ := hL k hm
    rw [hc] at hk; cases hk; simp [Obj.isCells] at ho)⟩

end Go.Proofs.YtmklkfogddppmaaDoor

/- A step on behind which a row is as it was. -/
namespace Go.Proofs.YtmklkfogddppmaaDoor
open Go.RowKit Go.Shelf
set_option linter.unusedVariables false

attribute [local go_sem] Oper.semAt_some

theorem Wr.turn {W W' : World} {row : Option Nat} {B Ba Bo g n : Nat} {p : List Nat} (h : Wr W Ba Bo g n p) (hg : W.grownBy W' row)
    (hr : ∀ r, row = some r → B ≤ r ∧ ∃ o : Obj, W.heap[r]? = some o ∧ o.isCells = false) : Wr W' Ba Bo g n p :=
  ⟨heap_turn h.at_ hg hr, heap_turn h.out hg hr, heap_turn h.row hg hr⟩

end Go.Proofs.YtmklkfogddppmaaDoor
