/- The arguments of a law's statement as the walks want them. -/
import Derived.Test.YtjedikaidbobdaaGreatDoorFr
import Derived.WideShapes
namespace Go.Proofs.YtjedikaidbobdaaGreatDoor
open Go.RowKit Go.WideShapes

/-- What is told of a slice of integers that came in. -/
def IsRow (k : IntKind) (w : World) (a : Option Addr) (len cap : Nat) (zs : List Int) : Prop :=
  (a = none ∧ len = 0 ∧ cap = 0 ∧ zs = []) ∨
  ∃ x, a = some x ∧ len ≤ cap ∧ cap ≤ maxLen ∧ zs.length = cap ∧ (∀ i, i < zs.length → w.cell? (x.add i) = some (.int k (zs.getD i 0))) ∧ ∀ n ∈ zs, (Lit.int k n).wf = true

/-- A slice that came in begins at a cell. -/
theorem okWide_spot {P : Program} {w : World} {r : Reach} {base : Nat} {t e : TypeId} {a : Option Addr} {len cap : Nat} (ht : P.underlying t = some (.slice e)) (h : Value.okWide P w r base t (.slice a len cap)) : ∀ x, a = some x → x.spot = none := by
  rintro x rfl
  simp only [Value.okWide, ht, Cell.okWide, Cell.ok] at h
  exact h.2.2.2.1

theorem u8_range {n : Int} (h : (Lit.int .u8 n).wf = true) : 0 ≤ n ∧ n < 256 := by
  simp [Lit.wf, IntKind.min, IntKind.max, IntKind.signed, IntKind.bits] at h
  omega

theorem Reads.ofRow {w : World} {a : Option Addr} {len cap : Nat} {zs : List Int} (h : IsRow .u8 w a len cap zs) (hs : ∀ x, a = some x → x.spot = none) : ∃ b : List UInt8, Reads w (.slice a len cap) b := by
  rcases h with ⟨rfl, rfl, rfl, rfl⟩ | ⟨x, rfl, h1, h2, h3, h4, h5⟩
  · exact ⟨[], Reads.nil w⟩
  · refine ⟨(zs.take len).map fun n => UInt8.ofNat n.toNat, some x, cap, by simp [h3, Nat.min_eq_left h1], by simp [h3]; omega, h2, (fun h => by cases h), fun y hy => ?_⟩
    cases hy
    have hx := hs x rfl
    obtain ⟨b, off, spot⟩ := x
    simp only at hx
    subst hx
    refine ⟨rfl, fun i hi => ?_⟩
    have hi2 : i < len ∧ i < cap := by simp [h3] at hi; omega
    have h6 := h4 i (by omega)
    have hadd : (⟨b, off, none⟩ : Addr).add i = ⟨b, off + i, none⟩ := by unfold Addr.add; split <;> simp_all
    rw [hadd] at h6
    rw [h6]
    have hz : i < zs.length := by omega
    have h7 := u8_range (h5 _ (List.getElem_mem hz))
    have h8 : (zs.getD i 0) = zs[i] := by rw [List.getD_eq_getElem?_getD, List.getElem?_eq_getElem hz]; rfl
    rw [h8]
    have h9 : (UInt8.ofNat zs[i].toNat).toNat = zs[i].toNat := by
      simp only [UInt8.toNat_ofNat']
      omega
    simp only [List.getElem_map, List.getElem_take, eb]
    rw [h9]
    congr 2
    omega

end Go.Proofs.YtjedikaidbobdaaGreatDoor
