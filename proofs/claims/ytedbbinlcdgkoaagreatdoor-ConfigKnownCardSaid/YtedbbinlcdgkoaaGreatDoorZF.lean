import Derived.Test.YtedbbinlcdgkoaaGreatDoorYK
/- Layer 19: the texts of ConfigKnown. No program in sight. -/
namespace Go.Proofs.YtedbbinlcdgkoaaGreatDoor
open Go.Lib
set_option linter.unusedVariables false
set_option linter.unusedSimpArgs false
def baseT : Bs := [83, 84, 79, 82, 69, 32, 54, 53, 53, 51, 54, 10, 80, 65, 82, 84, 32, 50, 48, 52, 56, 32, 65, 10]
def hexs : Bs := [48, 49, 50, 51, 52, 53, 54, 55, 56, 57, 65, 66, 67, 68, 69, 70]
def manyT : Nat → Bs
  | 0 => baseT
  | k + 1 => ((manyT k ++ [85, 78, 73, 84, 32, 49, 48]) ++ [hexs.getD k 0]) ++ [32, 80, 85, 78, 67, 72, 10]
def manyC : CfgT := ⟨(List.range 16).map fun (k : Nat) => ⟨256 + (k : Int), 2, [], 0, 0⟩, 65536, [⟨2048, [65]⟩]⟩
theorem many_parse : parseT (manyT 16) = (manyC, 0, 0) := by kernel_rfl
theorem many_len : (manyT 16).length = 264 := by kernel_rfl
theorem many_le : ∀ k ≤ 16, (manyT k).length ≤ 264 := by decide +kernel
theorem many_bad : parseT (manyT 16 ++ [85, 78, 73, 84, 32, 51, 70, 70, 32, 80, 85, 78, 67, 72]) = (zeroC, 19, 190) := by kernel_rfl
theorem many_15 : manyC.us.getD 15 ⟨0, 0, [], 0, 0⟩ = ⟨271, 2, [], 0, 0⟩ := by kernel_rfl
theorem many_us : manyC.us.length = 16 := by kernel_rfl
theorem many_vol : findT manyC.us (volT []) = (zeroU, false) := by kernel_rfl
theorem kn0 : parseT ([83, 84, 79, 82, 69, 32, 54, 55, 53, 56, 52]) = (zeroC, 1, 190) := by kernel_rfl
theorem kn1 : parseT ([83, 84, 79, 82, 69, 32, 48]) = (zeroC, 1, 190) := by kernel_rfl
theorem kn2 : parseT (baseT ++ [80, 65, 82, 84, 32, 48, 32, 66]) = (zeroC, 3, 190) := by kernel_rfl
theorem kn3 : parseT (baseT ++ [80, 65, 82, 84, 32, 50, 48, 52, 56, 32, 65, 66, 67, 68, 69, 70, 71, 72, 73]) = (zeroC, 3, 190) := by kernel_rfl
theorem kn4 : parseT (baseT ++ [80, 65, 82, 84, 32, 50, 48, 52, 56, 32, 97]) = (zeroC, 3, 190) := by kernel_rfl
theorem kn5 : parseT (baseT ++ [80, 65, 82, 84, 32, 53, 55, 51, 52, 52, 32, 66]) = (zeroC, 0, 190) := by kernel_rfl
theorem kn6 : parseT (baseT ++ [80, 65, 82, 84, 32, 50, 48, 52, 56]) = (zeroC, 3, 190) := by kernel_rfl
theorem kn7 : parseT (baseT ++ [80, 65, 82, 84, 32, 50, 48, 52, 56, 32, 66, 32, 67]) = (zeroC, 3, 190) := by kernel_rfl
theorem kn8 : parseT (baseT ++ [80, 65, 82, 84, 32, 50, 48, 52, 56, 32, 65, 10, 80, 65, 82, 84, 32, 50, 48, 52, 56, 32, 65, 10, 80, 65, 82, 84, 32, 50, 48, 52, 56, 32, 65, 10, 80, 65, 82, 84, 32, 50, 48, 52, 56, 32, 65]) = (zeroC, 6, 190) := by kernel_rfl
theorem kn9 : parseT (baseT ++ [85, 78, 73, 84, 32, 48, 48, 67]) = (zeroC, 3, 190) := by kernel_rfl
theorem kn10 : parseT (baseT ++ [85, 78, 73, 84, 32, 67, 32, 82, 69, 65, 68, 69, 82]) = (zeroC, 3, 190) := by kernel_rfl
theorem kn11 : parseT (baseT ++ [85, 78, 73, 84, 32, 48, 48, 67, 32, 82, 69, 65, 68, 69, 82, 32, 88]) = (zeroC, 3, 190) := by kernel_rfl
theorem kn12 : parseT (baseT ++ [85, 78, 73, 84, 32, 48, 48, 67, 32, 84, 65, 80, 69]) = (zeroC, 3, 190) := by kernel_rfl
theorem kn13 : parseT (baseT ++ [85, 78, 73, 84, 32, 48, 48, 67, 32, 84, 65, 80, 69, 32, 65, 66, 67, 68, 69, 70, 71]) = (zeroC, 3, 190) := by kernel_rfl
theorem kn14 : parseT (baseT ++ [85, 78, 73, 84, 32, 48, 48, 67, 32, 68, 73, 83, 75, 32, 65, 32, 54, 53, 32, 49]) = (zeroC, 3, 190) := by kernel_rfl
theorem kn15 : parseT (baseT ++ [85, 78, 73, 84, 32, 48, 48, 67, 32, 68, 73, 83, 75, 32, 65, 32, 54, 52, 32, 57]) = (zeroC, 3, 190) := by kernel_rfl
theorem kn16 : parseT (baseT ++ [85, 78, 73, 84, 32, 48, 48, 67, 32, 68, 73, 83, 75, 32, 65, 32, 48, 32, 49]) = (zeroC, 3, 190) := by kernel_rfl
theorem kn17 : parseT (baseT ++ [85, 78, 73, 84, 32, 48, 48, 67, 32, 68, 73, 83, 75, 32, 65, 32, 49, 32, 48, 49]) = (zeroC, 3, 190) := by kernel_rfl
theorem kn18 : parseT (baseT ++ [85, 78, 73, 84, 32, 48, 48, 67, 32, 67, 65, 82, 68]) = (zeroC, 3, 190) := by kernel_rfl
theorem kn19 : parseT (baseT ++ [117, 110, 105, 116, 32, 48, 48, 67, 32, 82, 69, 65, 68, 69, 82]) = (zeroC, 3, 190) := by kernel_rfl
theorem kn20 : parseT (baseT ++ [85, 78, 73, 84, 32, 48, 48, 67, 32, 82, 69, 65, 68, 69, 82, 10, 85, 78, 73, 84, 32, 48, 48, 67, 32, 80, 85, 78, 67, 72]) = (zeroC, 4, 190) := by kernel_rfl
theorem kn21 : parseT (baseT ++ [85, 78, 73, 84, 32, 48, 48, 67, 32, 84, 65, 80, 69, 32, 65, 10, 85, 78, 73, 84, 32, 48, 48, 68, 32, 68, 73, 83, 75, 32, 65, 32, 49, 32, 49]) = (zeroC, 4, 190) := by kernel_rfl
theorem fld_stars : ∀ (n : Nat) (cur : Bs), cur ≠ [] → fldG cur (List.replicate n 42) = [cur ++ List.replicate n 42]
  | 0, cur, h => by rw [List.replicate_zero, fldG, if_neg h, List.append_nil]
  | n + 1, cur, h => by
    rw [List.replicate_succ, fldG, if_neg (by decide), fld_stars n _ (by simp)]
    simp
theorem stars_void (n : Nat) (h : 0 < n) : voidT (wordsT (List.replicate n 42)) = true := by
  obtain ⟨m, rfl⟩ : ∃ m, n = m + 1 := ⟨n - 1, by omega⟩
  unfold wordsT
  rw [List.replicate_succ, fldG, if_neg (by decide), fld_stars m _ (by simp)]
  unfold voidT
  simp
def base0 : Bs := [83, 84, 79, 82, 69, 32, 54, 53, 53, 51, 54]
def base1 : Bs := [80, 65, 82, 84, 32, 50, 48, 52, 56, 32, 65]
def baseC : CfgT := ⟨[], 65536, [⟨2048, [65]⟩]⟩
theorem base_steps : goT zeroC [base0, base1, []] 0 = (baseC, 0) ∧ chkE baseC = 0 := by
  constructor <;> kernel_rfl
theorem base_split (r : Bs) : splitAtC 10 ((baseT ++ [10]) ++ r) = base0 :: base1 :: [] :: splitAtC 10 r := by
  rw [show (baseT ++ [10]) ++ r = base0 ++ 10 :: (base1 ++ 10 :: ([] ++ 10 :: r)) by rfl]
  rw [splitAtC_cons 10 base0 _ (by decide), splitAtC_cons 10 base1 _ (by decide), splitAtC_cons 10 [] _ (by simp)]
theorem go_app (c c1 : CfgT) (a b : List Bs) (k : Nat) : goT c a k = (c1, 0) → goT c (a ++ b) k = goT c1 b (k + a.length) := by
  induction a generalizing c k with
  | nil => intro h; rw [goT] at h; injection h with h _; subst h; rfl
  | cons x xs ih =>
    intro h
    rw [List.cons_append, goT]
    rw [goT] at h
    cases hs : stepT c x with
    | none => rw [hs] at h; injection h with _ h; cases h
    | some c2 =>
      rw [hs] at h
      show goT c2 (xs ++ b) (k + 1) = _
      rw [ih c2 (k + 1) h, List.length_cons]
      congr 1; omega
theorem long_parse (n : Nat) (h : 0 < n) (hn : n ≤ 65511) : parseT ((baseT ++ [10]) ++ List.replicate n 42) = (baseC, 0, 0) := by
  have hs : splitAtC 10 ((baseT ++ [10]) ++ List.replicate n 42) = [base0, base1, []] ++ [List.replicate n 42] := by
    rw [base_split, splitAtC_last 10 _ (fun c hc => by rw [List.eq_of_mem_replicate hc]; decide)]; rfl
  have hg : goT zeroC (splitAtC 10 ((baseT ++ [10]) ++ List.replicate n 42)) 0 = (baseC, 0) := by
    rw [hs, go_app zeroC baseC _ _ 0 base_steps.1, goT]
    have : stepT baseC (List.replicate n 42) = some baseC := by unfold stepT; rw [stars_void n h]; rfl
    rw [this]; rfl
  unfold parseT
  rw [if_neg (by rw [List.length_append, List.length_replicate]; have : (baseT ++ [10]).length = 25 := rfl; omega), hg]
  simp only [if_true]
  rw [if_pos base_steps.2]
theorem over_parse : parseT (List.replicate 65537 42) = (zeroC, 0, 2) := by
  unfold parseT
  rw [if_pos (by rw [List.length_replicate]; decide)]
def cU (c : UInt8) : V := .int .u8 ((c.toNat : Nat) : Int)
theorem cU_flat (l : Bs) : (bytesR l).flatten = l.map cU := by
  unfold bytesR
  induction l with
  | nil => rfl
  | cons a t ih => rw [List.map_cons, List.flatten_cons, ih]; rfl
theorem cU_refs (l : Bs) : V.refsL (l.map cU) = [] := by
  induction l with
  | nil => rfl
  | cons a t ih => rw [List.map_cons]; exact ih
theorem spl1_setU (i : Nat) (x : V) : ∀ l : List V, i < l.length → spl1 i [x] l = l.set i x := fun l h => by
  induction l generalizing i with
  | nil => simp at h
  | cons a t ih =>
    cases i with
    | zero => cases t <;> rfl
    | succ i => show a :: spl1 i [x] t = a :: t.set i x; rw [ih i (by simpa using h)]
theorem cU_set (j m : Nat) (h : j < m) : ((List.replicate j (42 : UInt8) ++ List.replicate (m - j) 0).map cU).set j (.int .u8 42) = (List.replicate (j + 1) (42 : UInt8) ++ List.replicate (m - (j + 1)) 0).map cU := by
  obtain ⟨r, hr⟩ : ∃ r, m - j = r + 1 := ⟨m - j - 1, by omega⟩
  rw [hr, show m - (j + 1) = r by omega]
  rw [List.map_append, List.set_append, if_neg (by simp)]
  simp only [List.length_map, List.length_replicate, Nat.sub_self, List.replicate_succ, List.map_cons, List.set_cons_zero]
  rw [← List.replicate_succ, List.replicate_succ' (n := j)]
  simp [cU]
end Go.Proofs.YtedbbinlcdgkoaaGreatDoor
