/- Slices of one-cell elements that are read, and appends to a slice of the call's own. -/
import Derived.Deep.AppendLies
import Derived.Maps.AppendAt
import Derived.Test.YtmklkfogddppmaaDoorKFrameB
namespace Go.Proofs.YtmklkfogddppmaaDoor
open Go.RowKit

/-- The slice value v reads as the cells xs in w. -/
def ReadsV (w : World) (v : Value) (xs : List Value) : Prop :=
  ∃ a cap, v = .slice a xs.length cap ∧ xs.length ≤ cap ∧ cap ≤ maxLen ∧ (a = none → xs = []) ∧
    ∀ x, a = some x → x.spot = none ∧ ∀ i (h : i < xs.length), w.cell? ⟨x.block, x.off + i, none⟩ = some xs[i]

theorem ReadsV.keep {w w' : World} {v : Value} {xs : List Value} (h : ReadsV w v xs) {L : List Nat} (hc : Chg L w w') (hL : ∀ k ∈ L, w.heap.size ≤ k) : ReadsV w' v xs := by
  obtain ⟨a, cap, hv, h1, h2, h3, h4⟩ := h
  refine ⟨a, cap, hv, h1, h2, h3, fun x hx => ⟨(h4 x hx).1, fun i hi => ?_⟩⟩
  have hcell := (h4 x hx).2 i hi
  refine hc.cell hcell (fun e => ?_)
  have h5 := hL _ e
  have h6 := World.block_lt_of_cell? w _ hcell
  simp only at h5 h6
  omega

theorem ReadsV.of_own {w : World} {base e : Nat} {v : Value} {xs : List Value} (h : w.ownsRow base e 1 v xs.length xs) : ReadsV w v xs := by
  rcases h.2 with ⟨rfl, hn⟩ | ⟨g, cap, cur, rfl, _, hg, hnc, hcm, _, htake⟩
  · have : xs = [] := List.eq_nil_of_length_eq_zero hn
    subst this
    exact ⟨none, 0, rfl, Nat.le_refl _, Nat.zero_le _, (fun _ => rfl), (fun x hx => by cases hx)⟩
  · refine ⟨some ⟨g, 0, none⟩, cap, rfl, hnc, hcm, (fun h => by cases h), fun x hx => ?_⟩
    cases hx
    refine ⟨rfl, fun i hi => ?_⟩
    have h1 : (cur.toList.take (xs.length * 1))[i]? = some xs[i] := by rw [htake]; simp [hi]
    rw [List.getElem?_take] at h1
    rw [Nat.zero_add, cell_of_row w g i cur e (0, 0) hg]
    split at h1
    · simpa using h1
    · cases h1

/-- A number as an int's cell. -/
def en (d : Nat) : Value := .int .i64 (d : Int)

theorem ReadsV.parts {w : World} {v : Value} {l : List Nat} (h : ReadsV w v (l.map en)) {L : Nat} (hL : l.length = L) :
    (l = [] ∧ L = 0 ∧ ∃ a cap, v = .slice a 0 cap) ∨
    ∃ bb off cap, v = .slice (some ⟨bb, off, none⟩) L cap ∧ 1 ≤ L ∧ L ≤ cap ∧ cap ≤ 9223372036854775807 ∧ Hid (∀ i, i < L → w.cell? ⟨bb, off + i, none⟩ = some (.int .i64 (l.getD i 0 : Nat))) := by
  subst hL
  obtain ⟨a, cap, hv, h1, h2, h3, h4⟩ := h
  rw [List.length_map] at hv h1
  by_cases h0 : l = []
  · subst h0; exact .inl ⟨rfl, rfl, a, cap, hv⟩
  · cases a with
    | none => exact absurd (by simpa using h3 rfl) h0
    | some x =>
      obtain ⟨hs, hc⟩ := h4 x rfl
      obtain ⟨bb, off, spot⟩ := x
      simp only at hs; subst hs
      refine .inr ⟨bb, off, cap, hv, List.length_pos_iff.2 h0, h1, by unfold maxLen at h2; omega, fun i hi => ?_⟩
      rw [hc i (by simpa using hi), List.getD_eq_getElem?_getD, List.getElem?_eq_getElem hi]; simp [en]

/-- The block that a slice value begins in. -/
def own (v : Value) : List Nat := v.ownBlock.toList

theorem own_ge {w : World} {B e n : Nat} {v : Value} {xs : List Value} (h : w.ownsRow B e 1 v n xs) : ∀ k ∈ own v, B ≤ k := by
  intro k hk
  have := h.lt k (by simpa [own] using hk)
  exact this.1

theorem own_keep {w w' : World} {B e n : Nat} {v : Value} {xs : List Value} (h : w.ownsRow B e 1 v n xs) {L : List Nat} (hc : Chg L w w') (hn : ∀ k ∈ own v, k ∉ L) : w'.ownsRow B e 1 v n xs := by
  refine ⟨h.1, ?_⟩
  rcases h.2 with h2 | ⟨g, cap, cur, rfl, hb, hg, rest⟩
  · exact .inl h2
  · exact .inr ⟨g, cap, cur, rfl, hb, hc.heap hg (hn g (by simp [own, Value.ownBlock])), rest⟩

theorem own_base {w : World} {B B' e n : Nat} {v : Value} {xs : List Value} (h : w.ownsRow B e 1 v n xs) (hB : B' ≤ B) : w.ownsRow B' e 1 v n xs := by
  refine ⟨h.1, ?_⟩
  rcases h.2 with h2 | ⟨g, cap, cur, rfl, hb, rest⟩
  · exact .inl h2
  · exact .inr ⟨g, cap, cur, rfl, Nat.le_trans hB hb, rest⟩

theorem chg_own {w wr w' : World} {B e n : Nat} {v : Value} {xs : List Value} (hc : Chg [] w wr) (h : wr.ownsRow B e 1 v n xs) (hB : w.heap.size ≤ B) (hc' : Chg (own v) wr w') : Chg [] w w' :=
  hc.then hc' (fun i hi hlt => by have := own_ge h i hi; omega)

/-- 'append(out, news..)' of elements just built, out the call's own: it may grow. -/
theorem appendN {P : Program} {ops : Array Oper} {rest : List Oper} {o : Oper} {a : Act} {Q : Exit → Act → World → Prop} {wr : World} (hgd : o.guard = none) (s x : Operand) (t : TypeId)
    (ho : o.op = .call { callee := .builtin .append, args := #[s, x], argTypes := #[t, t] }) (B e bytes : Nat) (z : Value) (ht : P.underlying t = some (.slice e))
    (hi : (P.info? e).map (fun i => (i.zero, i.size, i.bytes)) = some (some z, 1, bytes)) (hz : z.cells.size = 1) (hby : bytes ≤ 1000) (m : Nat) (news : List Value) (hm : news.length = m)
    {v : Value} {n : Nat} {xs : List Value} (hown : wr.ownsRow B e 1 v n xs) (hs : a.eval s = v) (hx : a.eval x = .slice (some ⟨wr.heap.size, 0, none⟩) m m) (hu : ∀ u ∈ news, u.oneCell' = true)
    (hn : n + m ≤ 1000000000) (hB : B ≤ wr.heap.size)
    (h : ∀ v' w', w'.ownsRow B e 1 v' (n + m) (xs ++ news) → Chg (own v) wr w' → wpList P ops Q rest (a.put o.dst v') w') : wpList P ops Q (o :: rest) a (wr.alloc (.cells news.toArray e)) := by
  obtain ⟨i, h1, h2, h3, h4⟩ := info_parts hi
  refine wpList_append_own _ hgd s x t ho B e i z 1 bytes ht h1 h2 h3 h4 hz (by decide) v n xs hs (hown.alloc _) ⟨wr.heap.size, 0, none⟩ m m news hx (by omega) ?_ hu (by unfold maxLen; omega) ?_ (by simp; omega) ?_
  · intro j u hj
    have hadd : (⟨wr.heap.size, 0, none⟩ : Addr).add j = ⟨wr.heap.size, j, none⟩ := by unfold Addr.add; split <;> simp_all
    rw [hadd, cell_of_row _ _ j news.toArray e (0, 0) (heap_alloc_new wr _)]
    simpa using hj
  · have : (n + m) * bytes ≤ 1000000000 * 1000 := Nat.mul_le_mul hn hby
    omega
  · intro v' w' ho' hg _
    refine h v' w' ho' ⟨hg.os, hg.tape, hg.output, Nat.le_trans (by simp) hg.size, fun k hk hkn => ?_⟩
    exact (hg.block k (by simp; omega) (fun e => hkn (by simp [own, ← e]))).trans (Below.heap_alloc _ _ _ hk)

end Go.Proofs.YtmklkfogddppmaaDoor

/- An append at a step of a region that draws its order. -/
namespace Go.Proofs.YtmklkfogddppmaaDoor
open Go.RowKit

theorem stepN {P : Program} {ops : Array Oper} {o : Oper} {a : Act} {K : Act → World → Prop} {Q : Exit → Act → World → Prop} {E : Prop} {W : World} (hgd : o.guard = none) (s x : Operand) (t : TypeId)
    (ho : o.op = .call { callee := .builtin .append, args := #[s, x], argTypes := #[t, t] }) (B e bytes : Nat) (z : Value) (ht : P.underlying t = some (.slice e))
    (hi : (P.info? e).map (fun i => (i.zero, i.size, i.bytes)) = some (some z, 1, bytes)) (hz : z.cells.size = 1) (hby : bytes ≤ 1000) (m : Nat) (news : List Value) (hm : news.length = m) (hm0 : 0 < m)
    {v : Value} {n : Nat} {xs : List Value} (hown : W.ownsRow B e 1 v n xs) (g0 : Nat) (hblk : W.heap[g0]? = some (.cells news.toArray e (0, 0)))
    (hs : a.eval s = v) (hx : a.eval x = .slice (some ⟨g0, 0, none⟩) m m) (hu : ∀ u ∈ news, u.oneCell' = true)
    (hn : n + m ≤ 1000000000) (hB : B ≤ W.heap.size)
    (h : ∀ v' w', w'.ownsRow B e 1 v' (n + m) (xs ++ news) → Chg (own v) W w' → K (a.put o.dst v') w') : if Region.wanted o (yielded ops a.tmps) = true then Oper.wp P o a W K Q else E := by
  obtain ⟨i, h1, h2, h3, h4⟩ := info_parts hi
  refine step_append_lies W hgd s x t ho B e i z 1 bytes ht h1 h2 h3 h4 hz (by decide) v n xs hs hown ⟨g0, 0, none⟩ m m news hx (by omega) ?_ hu hm0 (by unfold maxLen; omega) ?_ hB _ rfl ?_
  · intro j u hj
    have hadd : (⟨g0, 0, none⟩ : Addr).add j = ⟨g0, j, none⟩ := by unfold Addr.add; split <;> simp_all
    rw [hadd, cell_of_row _ _ j news.toArray e (0, 0) hblk]
    simpa using hj
  · have : (n + m) * bytes ≤ 1000000000 * 1000 := Nat.mul_le_mul hn hby
    omega
  · intro g cap w' ho' hg _ _
    exact h _ w' ho' ⟨hg.os, hg.tape, hg.output, hg.size, fun k hk hkn => hg.block k hk (fun e => hkn (by simp [own, ← e]))⟩

end Go.Proofs.YtmklkfogddppmaaDoor

/- Appending a slice that is read, nil or not, to one of the call's own. -/
namespace Go.Proofs.YtmklkfogddppmaaDoor
open Go.RowKit

theorem run_append_empty {P : Program} (w : World) (base : Nat) (t ty e : TypeId) (i : TypeInfo) (size : Nat) (ht : P.underlying t = some (.slice e)) (hi : P.info? e = some i)
    (v : Value) (n : Nat) (xs : List Value) (hown : w.ownsRow base e size v n xs) (c : Nat) : (Builtin.append_ #[t, t] ty #[v, .slice none 0 c]).run P w = .ok v w := by
  rcases hown.2 with ⟨rfl, rfl⟩ | ⟨g, cap, cur, rfl, _, _, hnc, _⟩
  · simp [Builtin.append_, run_underlying ht, sizeOf, typeInfo, hi, Builtin.lenOf, Builtin.firstCells]
  · simp [Builtin.append_, run_underlying ht, sizeOf, typeInfo, hi, Builtin.lenOf, Builtin.firstCells, hnc, storeCells]

/-- 'append(out, in..)' of a slice that reads as the cells ys, nil or not -/
theorem appendV {P : Program} {ops : Array Oper} {rest : List Oper} {o : Oper} {a : Act} {Q : Exit → Act → World → Prop} {w : World} (hgd : o.guard = none) (s x : Operand) (t : TypeId)
    (ho : o.op = .call { callee := .builtin .append, args := #[s, x], argTypes := #[t, t] }) (B e bytes : Nat) (z : Value) (ht : P.underlying t = some (.slice e))
    (hi : (P.info? e).map (fun i => (i.zero, i.size, i.bytes)) = some (some z, 1, bytes)) (hz : z.cells.size = 1) (hby : bytes ≤ 1000) {ys : List Value} {m : Nat} {ad : Option Addr} {cap : Nat} (hm : ys.length = m)
    (hy : ReadsV w (.slice ad m cap) ys) (h1 : ∀ u ∈ ys, u.oneCell' = true) {v : Value} {n : Nat} {xs : List Value} (hown : w.ownsRow B e 1 v n xs) (hs : a.eval s = v) (hx : a.eval x = .slice ad m cap)
    (hn : n + m ≤ 1000000000) (hB : B ≤ w.heap.size)
    (h : ∀ v' w', w'.ownsRow B e 1 v' (n + m) (xs ++ ys) → Chg (own v) w w' → wpList P ops Q rest (a.put o.dst v') w') : wpList P ops Q (o :: rest) a w := by
  obtain ⟨i, h1', h2, h3, h4⟩ := info_parts hi
  obtain ⟨ad', c, hv, _, _, hnil, hc⟩ := hy
  cases ad with
  | none =>
    injection hv with e1 e2 e3
    subst e1
    have hys := hnil rfl
    subst hys
    obtain rfl : m = 0 := by simpa using hm.symm
    refine wpList_plain hgd fun K hK => ?_
    have hrun := run_append_empty (P := P) w B t o.type e i 1 ht h1' v n xs hown cap
    unfold Oper.wp
    simp [execOp, ho, resolve, invoke, builtin, hs, hx, hrun, Result.andThen]
    exact hK _ _ (h v w (by simpa using hown) (Chg.refl _ _))
  | some p =>
    injection hv with e1 e2 e3
    subst e1
    obtain ⟨hsp, hc⟩ := hc p rfl
    obtain ⟨bb, off, spot⟩ := p
    simp only at hsp
    subst hsp
    refine wpList_append_own _ hgd s x t ho B e i z 1 bytes ht h1' h2 h3 h4 hz (by decide) v n xs hs hown ⟨bb, off, none⟩ _ cap ys hx (by simpa using hm) ?_ h1 (by unfold maxLen; omega) ?_ hB ?_
    · intro j u hj
      have hadd : (⟨bb, off, none⟩ : Addr).add j = ⟨bb, off + j, none⟩ := by unfold Addr.add; split <;> simp_all
      rw [hadd]
      have hj2 : j < ys.length := by
        rcases Nat.lt_or_ge j ys.length with h | h
        · exact h
        · rw [List.getElem?_eq_none (by simpa using h)] at hj; cases hj
      rw [hc j hj2]
      simpa [hj2] using hj
    · have : (n + m) * bytes ≤ 1000000000 * 1000 := Nat.mul_le_mul hn hby
      omega
    · intro v' w' ho' hg _
      exact h v' w' ho' ⟨hg.os, hg.tape, hg.output, hg.size, fun k hk hkn => hg.block k hk (fun e => hkn (by simp [own, ← e]))⟩

/-- a literal of elements just built is the call's own -/
theorem own_lit {w : World} {e : TypeId} (news : List Value) {m : Nat} (hm : news.length = m) (hmax : m ≤ 1000000) : (w.alloc (.cells news.toArray e)).ownsRow w.heap.size e 1 (.slice (some ⟨w.heap.size, 0, none⟩) m m) m news := by
  refine ⟨by simp [hm], .inr ⟨w.heap.size, m, news.toArray, rfl, Nat.le_refl _, heap_alloc_new w _, Nat.le_refl _, by unfold maxLen; omega, by simp [hm], ?_⟩⟩
  simp [← hm]

end Go.Proofs.YtmklkfogddppmaaDoor

/- More on slices of the call's own: a store at an index, an append of a slice that came in. -/
namespace Go.Proofs.YtmklkfogddppmaaDoor
open Go.RowKit

theorem own_made0 (w : World) (e : TypeId) : (w.alloc (.cells #[] e)).ownsRow w.heap.size e 1 (.slice (some ⟨w.heap.size, 0, none⟩) 0 0) 0 [] :=
  ⟨rfl, .inr ⟨w.heap.size, 0, #[], rfl, Nat.le_refl _, heap_alloc_new w _, Nat.le_refl _, Nat.zero_le _, rfl, rfl⟩⟩

theorem own_set {w : World} {B e n : Nat} {v : Value} {xs : List Value} (h : w.ownsRow B e 1 v n xs) (i : Nat) (hi : i < n) :
    ∃ g cap u, v = .slice (some ⟨g, 0, none⟩) n cap ∧ n ≤ cap ∧ cap ≤ 9223372036854775807 ∧ B ≤ g ∧ g < w.heap.size ∧ w.cell? ⟨g, i, none⟩ = some u ∧ Hid (xs[i]? = some u) ∧ w.frozen? ⟨g, i, none⟩ = false ∧
      Hid (∀ y, (w.setCell ⟨g, i, none⟩ y).ownsRow B e 1 v n (xs.set i y) ∧ Chg [g] w (w.setCell ⟨g, i, none⟩ y)) := by
  rcases h.2 with ⟨_, hn⟩ | ⟨g, cap, cur, rfl, hb, hg, hnc, hcm, hcs, htake⟩
  · omega
  · have hlen := h.1
    have hu : xs[i]? = some (xs[i]'(by omega)) := List.getElem?_eq_getElem _
    refine ⟨g, cap, xs[i]'(by omega), rfl, hnc, hcm, hb, lt_of_block hg, ?_, hu, frozen_of_row _ _ _ _ _ hg, fun y => ⟨⟨by simpa using h.1, .inr ⟨g, cap, cur.setIfInBounds i y, rfl, hb, heap_setCell_same w g i cur e y hg, hnc, hcm, by simpa using hcs, ?_⟩⟩, Chg.setCell _ (.inl (by simp)) _⟩⟩
    · rw [cell_of_row w g i cur e (0, 0) hg, ← hu, ← htake, List.getElem?_take, if_pos (by omega)]
      simp
    · rw [← htake, Array.toList_setIfInBounds]
      refine List.ext_getElem? fun j => ?_
      simp only [List.getElem?_take, List.getElem?_set, List.length_take]
      split <;> split <;> simp_all <;> omega

/-- 'append(out, in..)' of a slice that reads as bytes and has an address -/
theorem appendR {P : Program} {ops : Array Oper} {rest : List Oper} {o : Oper} {a : Act} {Q : Exit → Act → World → Prop} {w : World} (hgd : o.guard = none) (s x : Operand) (t : TypeId)
    (ho : o.op = .call { callee := .builtin .append, args := #[s, x], argTypes := #[t, t] }) (B e bytes : Nat) (z : Value) (ht : P.underlying t = some (.slice e))
    (hi : (P.info? e).map (fun i => (i.zero, i.size, i.bytes)) = some (some z, 1, bytes)) (hz : z.cells.size = 1) (hby : bytes ≤ 1000) (ys : List UInt8) (m bb off cap : Nat) (hm : ys.length = m)
    (hy : Reads w (.slice (some ⟨bb, off, none⟩) m cap) ys) {v : Value} {n : Nat} {xs : List Value} (hown : w.ownsRow B e 1 v n xs) (hs : a.eval s = v) (hx : a.eval x = .slice (some ⟨bb, off, none⟩) m cap)
    (hn : n + m ≤ 1000000000) (hB : B ≤ w.heap.size)
    (h : ∀ v' w', w'.ownsRow B e 1 v' (n + m) (xs ++ ys.map eb) → Chg (own v) w w' → wpList P ops Q rest (a.put o.dst v') w') : wpList P ops Q (o :: rest) a w := by
  obtain ⟨i, h1, h2, h3, h4⟩ := info_parts hi
  obtain ⟨ad, c, hv, _, _, _, hc⟩ := hy
  cases hv
  refine wpList_append_own _ hgd s x t ho B e i z 1 bytes ht h1 h2 h3 h4 hz (by decide) v n xs hs hown ⟨bb, off, none⟩ _ cap (ys.map eb) hx (by simp) ?_ ?_ (by unfold maxLen; omega) ?_ hB ?_
  · intro j u hj
    have hadd : (⟨bb, off, none⟩ : Addr).add j = ⟨bb, off + j, none⟩ := by unfold Addr.add; split <;> simp_all
    rw [hadd]
    have hj2 : j < ys.length := by
      rcases Nat.lt_or_ge j ys.length with h | h
      · exact h
      · rw [List.getElem?_eq_none (by simpa using h)] at hj; cases hj
    rw [(hc _ rfl).2 j hj2]
    simpa [hj2] using hj
  · intro u hu
    obtain ⟨y, _, rfl⟩ := List.mem_map.1 hu
    rfl
  · have : (n + ys.length) * bytes ≤ 1000000000 * 1000 := Nat.mul_le_mul hn hby
    omega
  · intro v' w' ho' hg _
    exact h v' w' ho' ⟨hg.os, hg.tape, hg.output, hg.size, fun k hk hkn => hg.block k hk (fun e => hkn (by simp [own, ← e]))⟩

/-- 'append(out, news..)' of elements just built, the new block's number spelled otherwise -/
theorem appendN2 {P : Program} {ops : Array Oper} {rest : List Oper} {o : Oper} {a : Act} {Q : Exit → Act → World → Prop} {wr : World} (hgd : o.guard = none) (s x : Operand) (t : TypeId)
    (ho : o.op = .call { callee := .builtin .append, args := #[s, x], argTypes := #[t, t] }) (B e bytes : Nat) (z : Value) (ht : P.underlying t = some (.slice e))
    (hi : (P.info? e).map (fun i => (i.zero, i.size, i.bytes)) = some (some z, 1, bytes)) (hz : z.cells.size = 1) (hby : bytes ≤ 1000) (m : Nat) (news : List Value) (hm : news.length = m) (g0 : Nat) (hg0 : g0 = wr.heap.size)
    {v : Value} {n : Nat} {xs : List Value} (hown : wr.ownsRow B e 1 v n xs) (hs : a.eval s = v) (hx : a.eval x = .slice (some ⟨g0, 0, none⟩) m m) (hu : ∀ u ∈ news, u.oneCell' = true)
    (hn : n + m ≤ 1000000000) (hB : B ≤ wr.heap.size)
    (h : ∀ v' w', w'.ownsRow B e 1 v' (n + m) (xs ++ news) → Chg (own v) wr w' → wpList P ops Q rest (a.put o.dst v') w') : wpList P ops Q (o :: rest) a (wr.alloc (.cells news.toArray e)) := by
  subst hg0
  exact appendN hgd s x t ho B e bytes z ht hi hz hby m news hm hown hs hx hu hn hB h

end Go.Proofs.YtmklkfogddppmaaDoor
