import Derived.Laws.Strings
import Derived.RangeFuncFrom
import Derived.RangeFuncNested
import Derived.RangeFuncLeaves
import Derived.Shelf.Abstract
import Derived.Test.YtldkmclfhjcicaaGreatDoorSpecA
import Derived.Test.YtldkmclfhjcicaaGreatDoorFr
import Derived.Test.YtldkmclfhjcicaaGreatDoorCatP

/- Comparison of strings as lists of bytes; no program in sight. -/
namespace Go.Proofs.YtldkmclfhjcicaaGreatDoor
open Go.RowKit

theorem bytesLess_eq : ∀ a b : Bs, Op.bytesLess a b = decide (a < b)
  | [], [] => by simp [Op.bytesLess]
  | _ :: _, [] => by simp [Op.bytesLess]
  | [], _ :: _ => by simp [Op.bytesLess]
  | x :: a, y :: b => by
    rw [Op.bytesLess, bytesLess_eq a b, Bool.eq_iff_iff]
    simp only [Bool.or_eq_true, Bool.and_eq_true, decide_eq_true_eq, beq_iff_eq, List.cons_lt_cons_iff]
theorem str_less (S T : ByteArray) : Op.bytesLess S.toList T.toList = decide (S.data.toList < T.data.toList) := by
  rw [ByteArray.toList_eq, ByteArray.toList_eq, bytesLess_eq]
theorem str_eq (S T : ByteArray) : (S.toList == T.toList) = decide (S.data.toList = T.data.toList) := by
  rw [ByteArray.toList_eq, ByteArray.toList_eq]
  rw [Bool.eq_iff_iff, beq_iff_eq, decide_eq_true_iff]
theorem str_inj {S T : ByteArray} (h : S.data.toList = T.data.toList) : S = T := by
  cases S; cases T; simp only at h; congr 1; exact Array.toList_inj.1 h
end Go.Proofs.YtldkmclfhjcicaaGreatDoor

/- Catalogs in memory: slices of entries (four cells) and of groups (two cells); no program in sight. -/
namespace Go.Proofs.YtldkmclfhjcicaaGreatDoor
open Go.RowKit

def bsV (l : Bs) : Value := .string ⟨l.toArray⟩
theorem bs_data (l : Bs) : (⟨l.toArray⟩ : ByteArray).data.toList = l := rfl
theorem bs_size (l : Bs) : (⟨l.toArray⟩ : ByteArray).size = l.length := rfl
theorem bs_of (S : ByteArray) : (⟨S.data.toList.toArray⟩ : ByteArray) = S := by cases S; simp
theorem bs_len (S : ByteArray) : S.data.toList.length = S.size := by simp

def entL (e : Ent) : List Value := [.string ⟨e.name.toArray⟩, .int .i64 e.unit, .string ⟨e.serial.toArray⟩, .int .i64 e.file]
def grpL (g : Grp) : List Value := [.string ⟨g.base.toArray⟩, .int .i64 g.limit]
theorem entL_len (e : Ent) : (entL e).length = 4 := rfl
theorem grpL_len (g : Grp) : (grpL g).length = 2 := rfl
def cE (es : List Ent) : List Value := es.flatMap entL
def cG (gs : List Grp) : List Value := gs.flatMap grpL
theorem cE_one : ∀ es : List Ent, ∀ u ∈ cE es, u.oneCell' = true := by
  intro es u hu
  obtain ⟨e, _, he⟩ := List.mem_flatMap.1 hu
  simp only [entL, List.mem_cons, List.not_mem_nil, or_false] at he
  rcases he with rfl | rfl | rfl | rfl <;> rfl
theorem cG_one : ∀ gs : List Grp, ∀ u ∈ cG gs, u.oneCell' = true := by
  intro gs u hu
  obtain ⟨e, _, he⟩ := List.mem_flatMap.1 hu
  simp only [grpL, List.mem_cons, List.not_mem_nil, or_false] at he
  rcases he with rfl | rfl <;> rfl
theorem cE_single (e : Ent) : cE [e] = entL e := by simp [cE]
def RdE (w : World) (v : Value) (es : List Ent) : Prop := RdK w 4 v es.length (cE es)
def RdG (w : World) (v : Value) (gs : List Grp) : Prop := RdK w 2 v gs.length (cG gs)
section
variable {w w' : World} {v : Value} {es : List Ent} {gs : List Grp}
theorem RdE.keep1 (h : RdE w v es) (hc : Chg [] w w') : RdE w' v es := RdK.keep1 h hc
theorem RdG.keep1 (h : RdG w v gs) (hc : Chg [] w w') : RdG w' v gs := RdK.keep1 h hc
theorem RdE.nil (w : World) : RdE w (.slice none 0 0) [] := RdK.nil w 4
theorem RdG.nil (w : World) : RdG w (.slice none 0 0) [] := RdK.nil w 2
theorem RdE.of_own {B : Nat} {e : TypeId} (h : w.ownsRow B e 4 v es.length (cE es)) : RdE w v es := RdK.of_own h
theorem RdG.of_own {B : Nat} {e : TypeId} (h : w.ownsRow B e 2 v gs.length (cG gs)) : RdG w v gs := RdK.of_own h
theorem RdE.parts (h : RdE w v es) {L : Nat} (hL : es.length = L) : (es = [] ∧ L = 0 ∧ ∃ a cap, v = .slice a 0 cap) ∨
    ∃ bb off cap, v = .slice (some ⟨bb, off, none⟩) L cap ∧ 1 ≤ L ∧ L ≤ cap ∧ cap ≤ 9223372036854775807 ∧ bb < w.heap.size ∧
      Hid (∀ i, i < L → w.cell? ⟨bb, off + i * 4, none⟩ = some (.string ⟨(es.getD i default).name.toArray⟩) ∧ w.cell? ⟨bb, off + i * 4 + 1, none⟩ = some (.int .i64 (es.getD i default).unit) ∧
        w.cell? ⟨bb, off + i * 4 + 2, none⟩ = some (.string ⟨(es.getD i default).serial.toArray⟩) ∧ w.cell? ⟨bb, off + i * 4 + 3, none⟩ = some (.int .i64 (es.getD i default).file)) := by
  subst hL
  rcases RdK.parts h with ⟨h0, h1⟩ | ⟨bb, off, cap, hv, h1, h2, h3, hc⟩
  · exact .inl ⟨List.length_eq_zero_iff.1 h0, h0, h1⟩
  · have key : ∀ i, i < es.length → ∀ j u, j < 4 → (entL (es.getD i default))[j]? = some u → w.cell? ⟨bb, off + (i * 4 + j), none⟩ = some u := fun i hi j u hj hu =>
      hc.out _ _ ((flat_get entL 4 entL_len es i j hi hj).trans hu)
    refine .inr ⟨bb, off, cap, hv, h1, h2, h3, World.block_lt_of_cell? w _ (key 0 h1 0 _ (by decide) rfl), fun i hi => ⟨key i hi 0 _ (by decide) rfl, ?_, ?_, ?_⟩⟩
    · rw [Nat.add_assoc]; exact key i hi 1 _ (by decide) rfl
    · rw [Nat.add_assoc]; exact key i hi 2 _ (by decide) rfl
    · rw [Nat.add_assoc]; exact key i hi 3 _ (by decide) rfl
theorem RdG.parts (h : RdG w v gs) {L : Nat} (hL : gs.length = L) : (gs = [] ∧ L = 0 ∧ ∃ a cap, v = .slice a 0 cap) ∨
    ∃ bb off cap, v = .slice (some ⟨bb, off, none⟩) L cap ∧ 1 ≤ L ∧ L ≤ cap ∧ cap ≤ 9223372036854775807 ∧ bb < w.heap.size ∧
      Hid (∀ i, i < L → w.cell? ⟨bb, off + i * 2, none⟩ = some (.string ⟨(gs.getD i default).base.toArray⟩) ∧ w.cell? ⟨bb, off + i * 2 + 1, none⟩ = some (.int .i64 (gs.getD i default).limit)) := by
  subst hL
  rcases RdK.parts h with ⟨h0, h1⟩ | ⟨bb, off, cap, hv, h1, h2, h3, hc⟩
  · exact .inl ⟨List.length_eq_zero_iff.1 h0, h0, h1⟩
  · have key : ∀ i, i < gs.length → ∀ j u, j < 2 → (grpL (gs.getD i default))[j]? = some u → w.cell? ⟨bb, off + (i * 2 + j), none⟩ = some u := fun i hi j u hj hu =>
      hc.out _ _ ((flat_get grpL 2 grpL_len gs i j hi hj).trans hu)
    refine .inr ⟨bb, off, cap, hv, h1, h2, h3, World.block_lt_of_cell? w _ (key 0 h1 0 _ (by decide) rfl), fun i hi => ⟨key i hi 0 _ (by decide) rfl, ?_⟩⟩
    rw [Nat.add_assoc]; exact key i hi 1 _ (by decide) rfl
theorem RdE.shape (h : RdE w v es) : ∃ a cap, v = .slice a es.length cap := RdK.shape h
theorem RdG.shape (h : RdG w v gs) : ∃ a cap, v = .slice a gs.length cap := RdK.shape h
end
def RdC (w : World) (ve vg : Value) (c : Cat) : Prop := RdE w ve c.es ∧ RdG w vg c.gs
theorem RdC.keep1 {w w' : World} {ve vg : Value} {c : Cat} (h : RdC w ve vg c) (hc : Chg [] w w') : RdC w' ve vg c := ⟨h.1.keep1 hc, h.2.keep1 hc⟩
theorem RdC.nil (w : World) : RdC w (.slice none 0 0) (.slice none 0 0) ⟨[], []⟩ := ⟨RdE.nil w, RdG.nil w⟩

end Go.Proofs.YtldkmclfhjcicaaGreatDoor

/- A loop over an iterator that writes a variable of its own (strings.SplitSeq and its like), at the wide fence: the iterator's word, and the caller's law; no program in sight. -/
namespace Go.Proofs.YtldkmclfhjcicaaGreatDoor
open Go.RowKit Go.Shelf
set_option linter.unusedVariables false

def AbB {β : Type} (b B : Nat) (J : β → World → Prop) : Prop :=
  ∀ s W W' row, J s W → W.grownBy W' row → (∀ r, row = some r → r = b ∨ (B ≤ r ∧ ∃ o : Obj, W.heap[r]? = some o ∧ o.isWalk = true)) → J s W'
def OwB {β : Type} (b B : Nat) (I : β → World → Prop) : Prop :=
  ∀ s W W' row, I s W → W.grownBy W' row → (∀ r, row = some r → r = b ∨ (B ≤ r ∧ ∃ o : Obj, W.heap[r]? = some o ∧ o.isCells = false)) → I s W'
def SeqB {α : Type} (n : Nat) (P : Program) (gf : Nat) (lb : Array Value) (enc : α → Value) (Kp : World → World → Prop) (S Sp : List α → Prop) (N b : Nat) (w : World) : Prop :=
  ∀ (l : Nat) (J Jx : List α → World → Prop) (W : World), Below w.heap.size w W → AbB b W.heap.size J → AbB b W.heap.size Jx →
    (∀ pre x W1, J pre W1 → pre.length < N → YieldAt Fence.wide (n - 1) P l #[enc x] W1 fun e W' =>
      (e = .returned (.bool true) ∧ J (pre ++ [x]) W' ∧ Kp W1 W') ∨ (e = .returned (.bool false) ∧ Jx (pre ++ [x]) W')) →
    J [] W →
    CallsIn Fence.wide n P gf (#[.func (.yield l) #[] #[]] ++ lb) W fun e W' => (∃ v, e = .returned v) ∧ ((∃ xs, S xs ∧ J xs W') ∨ (∃ pre, Sp pre ∧ Jx pre W'))

section
variable {β : Type} {b B : Nat} {I : β → World → Prop}
theorem OwB.put (h : OwB b B I) {s : β} {W : World} {l : Nat} {o : Obj} (o' : Obj) (hs : I s W) (hB : B ≤ l) (hl : W.heap[l]? = some o) (ho : o.isCells = false) : I s (W.putObj l o') :=
  h s W _ (some l) hs (grownBy_putObj' W l o') (fun r e => by cases e; exact .inr ⟨hB, o, hl, ho⟩)
theorem OwB.new (h : OwB b B I) {s : β} {W : World} (o : Obj) (hs : I s W) : I s (W.alloc o) := h s W _ none hs (World.grownBy_alloc W o none) (fun r e => by cases e)
end

def frameB (a : Act) (p q : Nat) (v : Value) : Act := { tmps := (a.tmps.setIfInBounds p v).setIfInBounds q v, defers := [] }

theorem rangeB {P : Program} {α : Type} {g : Operand} {p : Nat} {assign body : Code} {Q : Exit → Act → World → Prop} {a : Act} {w : World} (q n b : Nat)
    (h1 : 1 ≤ n) {gf : Nat} {lb : Array Value} (hg : a.eval g = .func (.func gf) #[] lb) (eg : ∀ args w, (callFunc gf args).run P w = .ok (.enter gf args) w)
    (enc : α → Value) {Kp : World → World → Prop} {S Sp : List α → Prop} {N : Nat} (hblt : b < w.heap.size) (hseq : SeqB (n - 1) P gf lb enc Kp S Sp N b w)
    (hKt : ∀ {A B C : World}, Kp A B → Kp B C → Kp A C) (hKb : ∀ (W : World) (l : Nat) (o o' : Obj), w.heap.size ≤ l → W.heap[l]? = some o → o.isCells = false → o.isWalk = false → Kp W (W.putObj l o'))
    (I : List α → World → Prop) (Ix : Code → List α → World → Prop) (hI : OwB b w.heap.size I) (hIx : ∀ c, OwB b w.heap.size (Ix c)) (h0 : I [] w)
    (hassign : ∀ (l : Nat) (x : α) (W : World) (K : Act → World → Prop), K (frameB a p q (enc x)) W →
      assign.wpIn (Fence.wide.inRound l) (n - 1 - 1) P (Exit.then K (fun _ _ _ => False)) { tmps := a.tmps.setIfInBounds p (enc x), defers := [] } W)
    (hbody : ∀ (l : Nat) (pre : List α) (x : α) (W : World), I pre W → pre.length < N → body.wpIn (Fence.wide.inRound l) (n - 1 - 1) P (ownPostK Kp I Ix (pre ++ [x]) W) (frameB a p q (enc x)) W)
    (hdone : ∀ (D : Nat) (xs : List α) (W : World), w.heap.size ≤ D → S xs → I xs W → W.heap[D]? = some (.deferred (some [])) → Q .normal { a with defers := { target := .collected D, args := #[] } :: a.defers } W)
    (hstop : ∀ (D : Nat) (c : Code) (pre : List α) (W : World), w.heap.size ≤ D → Sp pre → Ix c pre W → W.heap[D]? = some (.deferred (some [])) → c.wp P Q { a with defers := { target := .collected D, args := #[] } :: a.defers } W) :
    (Code.rangeFunc g #[p] assign body).wp P Q a w := by
  refine (wpIn_wide (n := n)).1 (wpIn_rangeFunc fun fn hfn => ?_)
  let lp : LoopState → Option Code → Obj := fun st pe => .loop { state := st, pending := pe, fn, tmps := a.tmps, params := #[p], assign, body, defers := w.heap.size }
  -- the two blocks of the loop's book-keeping
  let D := w.heap.size
  let l := w.heap.size + 1
  let Bk : World → LoopState → Option Code → Prop := fun W st pe => W.heap[l]? = some (lp st pe) ∧ W.heap[D]? = some (.deferred (some []))
  obtain ⟨W1, hW1⟩ : ∃ W1, (w.alloc (.deferred (some []))).alloc (lp .ready none) = W1 := ⟨_, rfl⟩
  have hsz : W1.heap.size = w.heap.size + 2 := by rw [← hW1]; simp
  have hB1 : Bk W1 .ready none := by
    rw [← hW1]
    exact ⟨al_new (by simp [l]), al_old (al_new rfl)⟩
  have put : ∀ {W : World} {st st' : LoopState} {pe pe' : Option Code}, Bk W st pe → Bk (W.putObj l (lp st' pe')) st' pe' := fun h =>
    ⟨World.putObj_heap_same (lt_of_block h.1), (World.putObj_heap_other (by show D ≠ l; simp [D, l])).trans h.2⟩
  have keepBk : ∀ {W W' : World} {row : Option Nat} {st : LoopState} {pe : Option Code}, Bk W st pe → W.grownBy W' row → (∀ r, row = some r → r = b ∨ (W1.heap.size ≤ r ∧ ∃ o : Obj, W.heap[r]? = some o ∧ o.isWalk = true)) → Bk W' st pe := by
    intro W W' row st pe h hgr hr
    have ne : ∀ k, k = D ∨ k = l → some k ≠ row := fun k hk e => by
      have hD : D = w.heap.size := rfl
      have hl : l = w.heap.size + 1 := rfl
      rcases hr k e.symm with h | ⟨h, _⟩ <;> omega
    exact ⟨(hgr.block l (lt_of_block h.1) (ne l (.inr rfl))).trans h.1, (hgr.block D (lt_of_block h.2) (ne D (.inl rfl))).trans h.2⟩
  have wide : ∀ {A : World} {row : Option Nat}, (∀ r, row = some r → r = b ∨ (W1.heap.size ≤ r ∧ ∃ o : Obj, A.heap[r]? = some o ∧ o.isWalk = true)) → ∀ r, row = some r → r = b ∨ (w.heap.size ≤ r ∧ ∃ o : Obj, A.heap[r]? = some o ∧ o.isCells = false) := by
    intro A row hr r e
    rcases hr r e with h | ⟨h, o, ho, hw⟩
    · exact .inl h
    · exact .inr ⟨by omega, o, ho, Obj.not_cells_of_walk hw⟩
  refine ⟨l, [{ target := .collected D, args := #[] }], W1, { target := .fn (.func gf) lb, args := #[.func (.yield l) #[] #[]] }, W1, gf, #[.func (.yield l) #[] #[]] ++ lb, W1, ?_, ?_, fun _ _ => trivial, ?_, fun _ => h1, ?_⟩
  · rw [← hW1]; exact run_enterLoop_outer _ _ _ _ _
  · simp only [resolve, hg]
    simp [go_sem]
  · simp [invoke, go_sem, eg]
  · have hbel : Below w.heap.size w W1 := by rw [← hW1]; exact ((Below.refl _ w).alloc (Nat.le_refl _) _).alloc (by simp) _
    refine (hseq l (fun pre W => I pre W ∧ Bk W .ready none) (fun pre W => ∃ c, Ix c pre W ∧ Bk W .done (some c)) W1 hbel
      (fun s A A' row hs hgr hr => ⟨hI s A A' row hs.1 hgr (wide hr), keepBk hs.2 hgr hr⟩)
      (fun s A A' row hs hgr hr => by obtain ⟨c, hc, hk⟩ := hs; exact ⟨c, hIx c s A A' row hc hgr (wide hr), keepBk hk hgr hr⟩) ?_ ⟨by rw [← hW1]; exact hI.new _ (hI.new _ h0), hB1⟩).mono ?_
    · rintro pre x W ⟨hi, hk⟩ hlen
      have hyield := run_yield (P := P) (args := #[enc x]) hk.1 rfl
      have hz : (#[p].zip #[enc x]).foldl (fun tmps (t, a) => tmps.setIfInBounds t a) a.tmps = a.tmps.setIfInBounds p (enc x) := by simp
      dsimp only at hyield
      rw [hz] at hyield
      refine ⟨fn, _, assign, body, hyield, roundIn_of_wpIn hfn ?_⟩
      refine hassign l x W _ ?_
      refine ⟨_, run_beginRound hk.1 rfl, ?_⟩
      have hk2 : Bk (W.putObj l (lp .busy none)) .busy none := put hk
      have hle : w.heap.size ≤ l := by simp [l]
      refine wpIn_mono (hbody l pre x _ (hI.put _ hi hle hk.1 rfl) hlen) ?_
      -- the round's end, whatever the way out
      have fin : ∀ (jump : Option Code) (W3 : World), KeepsOthers (W.putObj l (lp .busy none)) W3 →
          W3.heap[l]? = some (lp .busy none) ∧ (Instr.endRound l jump).run P W3 = .ok (.bool jump.isNone) (W3.putObj l (lp (if jump.isNone then .ready else .done) jump)) ∧ Bk (W3.putObj l (lp (if jump.isNone then .ready else .done) jump)) (if jump.isNone then .ready else .done) jump := fun jump W3 hk3 => by
        have hb3 : Bk W3 .busy none := ⟨hk3.same _ _ hk2.1 rfl, hk3.same _ _ hk2.2 rfl⟩
        exact ⟨hb3.1, run_endRound (P := P) jump hb3.1, put hb3⟩
      have leaves : ∀ (c : Code) (W3 : World), KeepsOthers (W.putObj l (lp .busy none)) W3 → Ix c (pre ++ [x]) W3 →
          ∃ v w', (Instr.endRound l (some c)).run P W3 = .ok v w' ∧ ((Ending.returned v = .returned (.bool true) ∧ (I (pre ++ [x]) w' ∧ Bk w' .ready none) ∧ Kp W w') ∨ (Ending.returned v = .returned (.bool false) ∧ ∃ c, Ix c (pre ++ [x]) w' ∧ Bk w' .done (some c))) := fun c W3 hk3 hx => by
        obtain ⟨hl3, hrun, hb4⟩ := fin (some c) W3 hk3
        exact ⟨_, _, hrun, .inr ⟨rfl, c, (hIx c).put _ hx hle hl3 rfl, hb4⟩⟩
      rintro e a3 W3 hp
      cases e with
      | normal =>
        obtain ⟨hk3, hkp, hi3⟩ := hp
        obtain ⟨hl3, hrun, hb4⟩ := fin none W3 hk3
        exact ⟨_, _, hrun, .inl ⟨rfl, ⟨hI.put _ hi3 hle hl3 rfl, hb4⟩, hKt (hKt (hKb _ _ _ _ hle hk.1 rfl rfl) hkp) (hKb _ _ _ _ hle hl3 rfl rfl)⟩⟩
      | ret => exact leaves .ret W3 hp.1 hp.2
      | exit id => exact leaves (.exit id) W3 hp.1 hp.2
      | goto t => exact leaves (.goto t) W3 hp.1 hp.2
      | panic ch => exact hp.elim
      | outgrown => exact hp.elim
    · rintro e W2 ⟨⟨v, rfl⟩, (⟨xs, hS, hi, hk⟩ | ⟨pre, hSp, c, hi, hk⟩)⟩
      · exact ⟨none, _, run_endLoop (P := P) hk.1 (by simp), hdone D xs _ (Nat.le_refl _) hS (hI.put _ hi (by simp [l]) hk.1 rfl) (put (st' := .exhausted) (pe' := none) hk).2⟩
      · exact ⟨some c, _, run_endLoop (P := P) hk.1 (by simp), wpIn_wide.2 (hstop D c pre _ (Nat.le_refl _) hSp ((hIx c).put _ hi (by simp [l]) hk.1 rfl) (put (st' := .exhausted) (pe' := some c) hk).2)⟩

theorem keeps_chg {W W' : World} (h : Chg [] W W') : KeepsOthers W W' := ⟨h.size, fun k o hk ho => h.heap hk (by simp)⟩

end Go.Proofs.YtldkmclfhjcicaaGreatDoor
