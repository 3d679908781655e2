/- An append at a step of a region that draws its order. -/
import Derived.Test.YtmmhokcdchhciaaApp
namespace Go.Proofs.Ytmmhokcdchhciaa
open Go.RowKit

theorem stepN {P : Program} {ops : Array Oper} {o : Oper} {a : Act} {K : Act → World → Prop} {Q : Exit → Act → World → Prop} {E : Prop} {W : World} (hgd : o.guard = none) (s x : Operand) (t : TypeId)
    (ho : o.op = .call { callee := .builtin .append, args := #[s, x], argTypes := #[t, t] }) (B e bytes : Nat) (z : Value) (ht : P.underlying t = some (.slice e))
    (hi : (P.info? e).map (fun i => (i.zero, i.size, i.bytes)) = some (some z, 1, bytes)) (hz : z.cells.size = 1) (hby : bytes ≤ 1000) (m : Nat) (news : List Value) (hm : news.length = m) (hm0 : 0 < m)
    {v : Value} {n : Nat} {xs : List Value} (hown : W.ownsRow B e 1 v n xs) (g0 : Nat) (hblk : W.heap[g0]? = some (.cells news.toArray e (0, 0)))
    (hs : a.eval s = v) (hx : a.eval x = .slice (some ⟨g0, 0, none⟩) m m) (hu : ∀ u ∈ news, u.oneCell' = true)
    (hn : n + m ≤ 1000000000) (hB : B ≤ W.heap.size)
    (h : ∀ v' w', w'.ownsRow B e 1 v' (n + m) (xs ++ news) → Chg (own v) W w' → K (a.put o.dst v') w') : if Region.wanted o (yielded ops a.tmps) = true then Oper.wp P o a W K Q else E := by
  obtain ⟨i, h1, h2, h3, h4⟩ := info_parts hi
  refine step_append_lies W hgd s x t ho B e i z 1 bytes ht h1 h2 h3 h4 hz (by decide) v n xs hs hown ⟨g0, 0, none⟩ m m news hx (by omega) ?_ hu hm0 (by unfold maxLen; omega) ?_ hB _ rfl ?_
  · intro j u hj
    have hadd : (⟨g0, 0, none⟩ : Addr).add j = ⟨g0, j, none⟩ := by unfold Addr.add; split <;> simp_all
    rw [hadd, cell_of_row _ _ j news.toArray e (0, 0) hblk]
    simpa using hj
  · have : (n + m) * bytes ≤ 1000000000 * 1000 := Nat.mul_le_mul hn hby
    omega
  · intro g cap w' ho' hg _ _
    exact h _ w' ho' ⟨hg.os, hg.tape, hg.output, hg.size, fun k hk hkn => hg.block k hk (fun e => hkn (by simp [own, ← e]))⟩

end Go.Proofs.Ytmmhokcdchhciaa
