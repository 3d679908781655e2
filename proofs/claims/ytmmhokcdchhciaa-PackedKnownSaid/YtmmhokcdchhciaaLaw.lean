/- The helping functions of the laws of layer 3. -/
import Derived.Test.YtmmhokcdchhciaaDecode
import Derived.Test.YtmmhokcdchhciaaEncode
import Derived.Test.YtmmhokcdchhciaaZoned
import Derived.Test.YtmmhokcdchhciaaPack
import Derived.Deep.RegionWith
namespace Go.Proofs.Ytmmhokcdchhciaa
open Go.RowKit Go.Shelf
set_option linter.unusedVariables false

/-- A row of bytes just built. -/
theorem Reads.lit {w : World} {k : Nat} {cs : Array Value} {e : TypeId} (xs : Bs) (n : Nat) (h : w.heap[k]? = some (.cells cs e (0, 0))) (hc : cs = (xs.map eb).toArray) (hn : xs.length = n) (hl : n ≤ 1000000) : Reads w (.slice (some ⟨k, 0, none⟩) n n) xs := by
  subst hn hc
  refine ⟨some ⟨k, 0, none⟩, _, rfl, Nat.le_refl _, by unfold maxLen; omega, (fun h => by cases h), fun x hx => ?_⟩
  cases hx
  refine ⟨rfl, fun i hi => ?_⟩
  rw [cell_of_row w _ _ _ _ _ h]
  simp [hi]
theorem Reads.new {w : World} {cs : Array Value} {e : TypeId} {k n : Nat} (xs : Bs) (hk : k = w.heap.size) (hc : cs = (xs.map eb).toArray) (hn : xs.length = n) (hl : n ≤ 1000000) : Reads (w.alloc (.cells cs e)) (.slice (some ⟨k, 0, none⟩) n n) xs :=
  Reads.lit xs n (al_new hk) hc hn hl

theorem is_yes (w : World) (v : Value) (src : Bs) (neg : Bool) (s : ByteArray) (hv : Reads w v src) (hd : decS src = ((neg, s.data.toList), true)) :
    Calls Try.prog 38 #[v, .bool neg, .string s] w fun e w' => e = .returned (.bool true) ∧ Chg [] w w' := by
  have H := hid hv
  have HD := hid hd
  clear hv hd
  go_enter Try.func38, Try.ntmps38
  go_wp2_with (go_at_call 25; refine (Decode_any _ _ src H.out).mono ?_; rintro e w1 ⟨rfl, hc1⟩; rw [HD.out])
  have q0 : (w1.alloc (Obj.cells #[Value.bool neg, Value.string s] 26)).heap[w1.heap.size]? = some (.cells #[.bool neg, .string s] 26 (0, 0)) := al_new rfl
  obtain ⟨c0, c1⟩ := two_cells q0
  have hc2 := hc1.trans (Chg.alloc [] w1 (Obj.cells #[Value.bool neg, Value.string s] 26))
  generalize w1.alloc (Obj.cells #[Value.bool neg, Value.string s] 26) = W at *
  clear hc1 q0
  have HC2 := hid hc2
  clear hc2
  go_region_with (go_at_call 28; refine (dec_any _ _ _).mono ?_; rintro e w2 ⟨rfl, hc2⟩; have d0 := hc2.cell c0 (by simp); have d1 := hc2.cell c1 (by simp))
  all_goals go_wp2_with (fail)
  all_goals go_returns
  all_goals exact ⟨rfl, (HC2.out.trans (Chg.drew _ _)).trans hc2⟩

theorem not_yes (w : World) (v : Value) (src : Bs) (hv : Reads w v src) (hd : decS src = ((false, []), false)) :
    Calls Try.prog 30 #[v] w fun e w' => e = .returned (.bool true) ∧ Chg [] w w' := by
  have H := hid hv
  have HD := hid hd
  clear hv hd
  go_enter Try.func30, Try.ntmps30
  go_wp2_with (go_at_call 25; refine (Decode_any _ _ src H.out).mono ?_; rintro e w1 ⟨rfl, hc1⟩; rw [HD.out])
  go_returns
  exact ⟨rfl, hc1.trans (Chg.alloc _ _ _)⟩

theorem field_yes (w : World) (v : Value) (xs : Bs) (neg over : Bool) (s : ByteArray) (n : Int) (hs : s.size ≤ maxLen) (hv : Reads w v xs) (he : encS neg s.data.toList n = (xs, over)) :
    Calls Try.prog 39 #[.agg #[.bool neg, .string s], .int .i64 n, v, .bool over] w fun e w' => e = .returned (.bool true) ∧ Chg [] w w' := by
  have H := hid hv
  have HE := hid he
  clear hv he
  go_enter Try.func39, Try.ntmps39
  go_wp2_with (go_at_call 24; refine (Encode_any _ _ _ hs _).mono ?_; rintro e w1 ⟨u, rfl, ho, hc1⟩; rw [HE.out] at ho ⊢)
  go_at_call 26
  refine (same_any _ _ _ xs xs (Reads.of_own ho) (H.out.keep (Chg.trans (Chg.alloc [] _ _) hc1) (by simp))).mono ?_
  rintro e w2 ⟨rfl, rfl⟩
  go_wp2_with (fail)
  go_returns
  exact ⟨rfl, (Chg.alloc [] _ _).trans hc1⟩

end Go.Proofs.Ytmmhokcdchhciaa
