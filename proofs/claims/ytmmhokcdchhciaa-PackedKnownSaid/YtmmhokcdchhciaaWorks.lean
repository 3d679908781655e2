/- works: the examples of the chapter. -/
import Derived.Test.YtmmhokcdchhciaaLaw
import Derived.Test.YtmmhokcdchhciaaUnpack
import Derived.Test.YtmmhokcdchhciaaOffset
namespace Go.Proofs.Ytmmhokcdchhciaa
open Go.RowKit Go.Shelf
set_option linter.unusedVariables false

/-- the bytes of a row of cells -/
def unb (cs : Array Value) : Bs := cs.toList.map fun v => match v with | .int _ x => UInt8.ofNat x.toNat | _ => 0

theorem Reads.lit1 {w : World} {cs : Array Value} {e : TypeId} {k n : Nat} (hk : k = w.heap.size) (hc : cs = ((unb cs).map eb).toArray) (hn : (unb cs).length = n) (hl : n ≤ 1000000) : Reads (w.alloc (.cells cs e)) (.slice (some ⟨k, 0, none⟩) n n) (unb cs) := Reads.new _ hk hc hn hl

/-- What has happened, and the number in block B. -/
def Sn (w W : World) (B : Nat) (x y : Value) : Prop := Chg [] w W ∧ W.heap[B]? = some (.cells #[x, y] 26 (0, 0))
theorem Sn.keep {w W W' : World} {B : Nat} {x y : Value} (h : Sn w W B x y) (hc : Chg [] W W') : Sn w W' B x y := ⟨h.1.trans hc, hc.heap h.2 (by simp)⟩
theorem Sn.one {w W W' : World} {o : Obj} {B : Nat} {x y : Value} (h : Sn w W B x y) (hc : Chg [] (W.alloc o) W') : Sn w W' B x y := (h.keep (Chg.alloc _ _ _)).keep hc
theorem Sn.start {w W : World} {x y : Value} (hc : Chg [] w W) : Sn w (W.alloc (.cells #[x, y] 26)) W.heap.size x y := ⟨hc.trans (Chg.alloc _ _ _), al_new rfl⟩

theorem same_yes (w : World) (v u : Value) (xs : Bs) (h : Reads w v xs) (k : Reads w u xs) : Calls Try.prog 26 #[v, u] w fun e w' => e = .returned (.bool true) ∧ Chg [] w w' := by
  refine Calls.mono (same_any w v u xs xs h k) ?_
  rintro e w' ⟨rfl, rfl⟩
  exact ⟨by simp, Chg.refl _ _⟩

set_option maxRecDepth 100000 in
set_option maxHeartbeats 1000000 in
theorem works_yes (w : World) : Calls Try.prog 15 #[] w fun e w' => e = .returned (.bool true) ∧ Chg [] w w' := by
  go_enter Try.func15, Try.ntmps15
  go_wp2_with (go_at_call 28; refine (dec_any _ _ _).mono ?_; rintro e w1 ⟨rfl, hc⟩)
  go_at_call 38
  refine (is_yes _ _ _ _ _ (Reads.lit1 (by first | rfl | simp) (by rfl) (by rfl) (by decide)) (by decide +kernel)).mono ?_
  rintro e W1 ⟨rfl, hc1⟩
  have hs := (Sn.start hc).one hc1
  clear hc hc1
  obtain ⟨c0, c1⟩ := two_cells hs.2
  have hs := hid hs
  go_wp2_with (first
    | (go_at_call 38; refine (is_yes _ _ _ _ _ (Reads.lit1 (by first | rfl | simp) (by rfl) (by rfl) (by decide)) (by decide +kernel)).mono ?_; rintro e W1 ⟨rfl, hc1⟩; have hs := hid (hs.out.one hc1); clear hc1 c0 c1; obtain ⟨c0, c1⟩ := two_cells hs.out.2)
    | (go_at_call 30; refine (not_yes _ _ _ (Reads.lit1 (by first | rfl | simp) (by rfl) (by rfl) (by decide)) (by decide +kernel)).mono ?_; rintro e W1 ⟨rfl, hc1⟩; have hs := hid (hs.out.one hc1); clear hc1 c0 c1; obtain ⟨c0, c1⟩ := two_cells hs.out.2))
  go_at_call 39
  refine Calls.mono (field_yes _ _ [1, 35, 77] _ _ _ _ ?s ?r ?e) ?_
  case s => decide +kernel
  case r => exact Reads.new _ (by first | rfl | simp) (by rfl) (by rfl) (by decide)
  case e => decide +kernel
  rintro e W1 ⟨rfl, hc1⟩; have hs := hid (hs.out.one hc1); clear hc1 c0 c1; obtain ⟨c0, c1⟩ := two_cells hs.out.2
  go_wp2_with (fail)
  go_at_call 39
  refine Calls.mono (field_yes _ _ [35, 77] _ _ _ _ ?s ?r ?e) ?_
  case s => decide +kernel
  case r => exact Reads.new _ (by first | rfl | simp) (by rfl) (by rfl) (by decide)
  case e => decide +kernel
  rintro e W1 ⟨rfl, hc1⟩; have hs := hid (hs.out.one hc1); clear hc1 c0 c1; obtain ⟨c0, c1⟩ := two_cells hs.out.2
  go_wp2_with (fail)
  go_at_call 39
  refine Calls.mono (field_yes _ _ [77] _ _ _ _ ?s ?r ?e) ?_
  case s => decide +kernel
  case r => exact Reads.new _ (by first | rfl | simp) (by rfl) (by rfl) (by decide)
  case e => decide +kernel
  rintro e W1 ⟨rfl, hc1⟩; have hs := hid (hs.out.one hc1); clear hc1 c0 c1; obtain ⟨c0, c1⟩ := two_cells hs.out.2
  go_wp2_with (fail)
  go_at_call 39
  refine Calls.mono (field_yes _ _ [] _ _ _ _ ?s ?r ?e) ?_
  case s => decide +kernel
  case r => exact Reads.nil _
  case e => decide +kernel
  rintro e W1 ⟨rfl, hc1⟩; have hs := hid (hs.out.keep hc1); clear hc1 c0 c1; obtain ⟨c0, c1⟩ := two_cells hs.out.2
  clear c0 c1
  have hc := hs.out.1
  clear hs
  go_wp2_with (go_at_call 28; refine (dec_any _ _ _).mono ?_; rintro e W1 ⟨rfl, hc1⟩; have hc := hc.trans hc1; clear hc1)
  go_at_call 27
  refine Calls.mono (Zoned_any _ false ⟨#[53, 55]⟩ (by decide +kernel) 3) ?_
  rw [show zonS false (⟨#[53, 55]⟩ : ByteArray).data.toList 3 = ([240, 245, 199], false) from by decide +kernel]
  rintro e W1 ⟨u1, rfl, ho, hc1⟩
  have hu1 := Reads.of_own ho
  have hc := hc.trans hc1
  clear hc1 ho
  go_wp2_with (go_at_call 28; refine (dec_any _ _ _).mono ?_; rintro e W1 ⟨rfl, hc1⟩; have hc := hc.trans hc1; have hu1 := hu1.keep hc1 (by simp); clear hc1)
  go_at_call 27
  refine Calls.mono (Zoned_any _ true ⟨#[53, 55]⟩ (by decide +kernel) 1) ?_
  rw [show zonS true (⟨#[53, 55]⟩ : ByteArray).data.toList 1 = ([215], true) from by decide +kernel]
  rintro e W1 ⟨u2, rfl, ho, hc1⟩
  have hu2 := Reads.of_own ho
  have hc := hc.trans hc1
  have hu1 := hu1.keep hc1 (by simp)
  clear hc1 ho
  go_wp2_with (fail)
  go_at_call 26
  refine Calls.mono (same_yes _ _ _ [240, 245, 199] (hu1.keep (Chg.alloc [] _ _) (by simp)) (Reads.new [240, 245, 199] (by first | rfl | simp) (by rfl) (by rfl) (by decide))) ?_
  rintro e W1 ⟨rfl, hc1⟩
  have hu2 := hu2.keep ((Chg.alloc [] _ _).trans hc1) (by simp)
  have hc := hc.trans ((Chg.alloc [] _ _).trans hc1)
  clear hc1
  go_wp2_with (fail)
  go_at_call 26
  refine Calls.mono (same_yes _ _ _ [215] (hu2.keep (Chg.alloc [] _ _) (by simp)) (Reads.new [215] (by first | rfl | simp) (by rfl) (by rfl) (by decide))) ?_
  rintro e W1 ⟨rfl, hc1⟩
  have hc := hc.trans ((Chg.alloc [] _ _).trans hc1)
  clear hc1
  go_wp2_with (fail)
  go_at_call 18
  refine Calls.mono (Pack_any _ _ [241, 242, 195] 3 (Reads.new [241, 242, 195] (by first | rfl | simp) (by rfl) (by rfl) (by decide))) ?_
  rw [show packS [241, 242, 195] 3 = [0, 18, 60] from by decide +kernel]
  rintro e W1 ⟨up1, rfl, ho, hc1⟩
  have p1 := Reads.of_own ho
  have h9 := (Reads.new [241, 242, 195] (by first | rfl | simp) (by rfl) (by rfl) (by decide)).keep hc1 (by simp)
  have hc := hc.trans ((Chg.alloc [] _ _).trans hc1)
  clear hc1 ho
  go_wp2_with (fail)
  go_at_call 26
  refine Calls.mono (same_yes _ _ _ [0, 18, 60] (p1.keep (Chg.alloc [] _ _) (by simp)) (Reads.new [0, 18, 60] (by first | rfl | simp) (by rfl) (by rfl) (by decide))) ?_
  rintro e W1 ⟨rfl, hc1⟩
  have h9 := h9.keep ((Chg.alloc [] _ _).trans hc1) (by simp)
  have hc := hc.trans ((Chg.alloc [] _ _).trans hc1)
  clear hc1
  go_wp2_with (fail)
  go_at_call 18
  refine Calls.mono (Pack_any _ _ [241, 242, 195] 2 h9) ?_
  rw [show packS [241, 242, 195] 2 = [18, 60] from by decide +kernel]
  rintro e W1 ⟨up2, rfl, ho, hc1⟩
  have p2 := Reads.of_own ho
  have h9 := h9.keep hc1 (by simp)
  have hc := hc.trans hc1
  clear hc1 ho
  go_wp2_with (fail)
  go_at_call 26
  refine Calls.mono (same_yes _ _ _ [18, 60] (p2.keep (Chg.alloc [] _ _) (by simp)) (Reads.new [18, 60] (by first | rfl | simp) (by rfl) (by rfl) (by decide))) ?_
  rintro e W1 ⟨rfl, hc1⟩
  have h9 := h9.keep ((Chg.alloc [] _ _).trans hc1) (by simp)
  have hc := hc.trans ((Chg.alloc [] _ _).trans hc1)
  clear hc1
  go_wp2_with (fail)
  go_at_call 18
  refine Calls.mono (Pack_any _ _ [241, 242, 195] 1 h9) ?_
  rw [show packS [241, 242, 195] 1 = [60] from by decide +kernel]
  rintro e W1 ⟨up3, rfl, ho, hc1⟩
  have p3 := Reads.of_own ho
  have h9 := h9.keep hc1 (by simp)
  have hc := hc.trans hc1
  clear hc1 ho
  go_wp2_with (fail)
  go_at_call 26
  refine Calls.mono (same_yes _ _ _ [60] (p3.keep (Chg.alloc [] _ _) (by simp)) (Reads.new [60] (by first | rfl | simp) (by rfl) (by rfl) (by decide))) ?_
  rintro e W1 ⟨rfl, hc1⟩
  have h9 := h9.keep ((Chg.alloc [] _ _).trans hc1) (by simp)
  have hc := hc.trans ((Chg.alloc [] _ _).trans hc1)
  clear hc1
  go_wp2_with (fail)
  go_at_call 20
  refine Calls.mono (Unpack_any _ _ [18, 60] 4 (Reads.new [18, 60] (by first | rfl | simp) (by rfl) (by rfl) (by decide))) ?_
  rw [show unpackS [18, 60] 4 = [240, 241, 242, 195] from by decide +kernel]
  rintro e W1 ⟨uq1, rfl, ho, hc1⟩
  have q1 := Reads.of_own ho
  have hc := hc.trans ((Chg.alloc [] _ _).trans hc1)
  clear hc1 ho
  go_wp2_with (fail)
  go_at_call 26
  refine Calls.mono (same_yes _ _ _ [240, 241, 242, 195] (q1.keep (Chg.alloc [] _ _) (by simp)) (Reads.new [240, 241, 242, 195] (by first | rfl | simp) (by rfl) (by rfl) (by decide))) ?_
  rintro e W1 ⟨rfl, hc1⟩
  have hc := hc.trans ((Chg.alloc [] _ _).trans hc1)
  clear hc1
  go_wp2_with (fail)
  go_at_call 20
  refine Calls.mono (Unpack_any _ _ [18, 60] 2 (Reads.new [18, 60] (by first | rfl | simp) (by rfl) (by rfl) (by decide))) ?_
  rw [show unpackS [18, 60] 2 = [242, 195] from by decide +kernel]
  rintro e W1 ⟨uq2, rfl, ho, hc1⟩
  have q2 := Reads.of_own ho
  have hc := hc.trans ((Chg.alloc [] _ _).trans hc1)
  clear hc1 ho
  go_wp2_with (fail)
  go_at_call 26
  refine Calls.mono (same_yes _ _ _ [242, 195] (q2.keep (Chg.alloc [] _ _) (by simp)) (Reads.new [242, 195] (by first | rfl | simp) (by rfl) (by rfl) (by decide))) ?_
  rintro e W1 ⟨rfl, hc1⟩
  have hc := hc.trans ((Chg.alloc [] _ _).trans hc1)
  clear hc1
  go_wp2_with (fail)
  go_at_call 22
  refine Calls.mono (Offset_any _ _ _ [119, 136, 156] [18, 52] ((Reads.new [119, 136, 156] (by first | rfl | simp) (by rfl) (by rfl) (by decide)).keep (Chg.alloc [] _ _) (by simp)) (Reads.new [18, 52] (by first | rfl | simp) (by rfl) (by rfl) (by decide))) ?_
  rw [show offS [119, 136, 156] [18, 52] = [1, 35, 76] from by decide +kernel]
  rintro e W1 ⟨uo1, rfl, ho, hc1⟩
  have o1 := Reads.of_own ho
  have hc := hc.trans (((Chg.alloc [] _ _).trans (Chg.alloc [] _ _)).trans hc1)
  clear hc1 ho
  go_wp2_with (fail)
  go_at_call 26
  refine Calls.mono (same_yes _ _ _ [1, 35, 76] (o1.keep (Chg.alloc [] _ _) (by simp)) (Reads.new [1, 35, 76] (by first | rfl | simp) (by rfl) (by rfl) (by decide))) ?_
  rintro e W1 ⟨rfl, hc1⟩
  have hc := hc.trans ((Chg.alloc [] _ _).trans hc1)
  clear hc1
  go_wp2_with (fail)
  go_at_call 22
  refine Calls.mono (Offset_any _ _ _ [156] [18, 52] ((Reads.new [156] (by first | rfl | simp) (by rfl) (by rfl) (by decide)).keep (Chg.alloc [] _ _) (by simp)) (Reads.new [18, 52] (by first | rfl | simp) (by rfl) (by rfl) (by decide))) ?_
  rw [show offS [156] [18, 52] = [76] from by decide +kernel]
  rintro e W1 ⟨uo2, rfl, ho, hc1⟩
  have o2 := Reads.of_own ho
  have hc := hc.trans (((Chg.alloc [] _ _).trans (Chg.alloc [] _ _)).trans hc1)
  clear hc1 ho
  go_wp2_with (fail)
  go_at_call 26
  refine Calls.mono (same_yes _ _ _ [76] (o2.keep (Chg.alloc [] _ _) (by simp)) (Reads.new [76] (by first | rfl | simp) (by rfl) (by rfl) (by decide))) ?_
  rintro e W1 ⟨rfl, hc1⟩
  have hc := hc.trans ((Chg.alloc [] _ _).trans hc1)
  clear hc1
  go_wp2_with (fail)
  go_returns
  exact ⟨rfl, hc⟩

end Go.Proofs.Ytmmhokcdchhciaa
