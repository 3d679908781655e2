import Derived.Outline
import Derived.Shelf.Strings.Builder1
import Derived.Shelf.Strings.BuilderX
import Derived.WalkKit
import Derived.Test.YtjedikaidbobdaaGreatDoorUF
/- Layer 2: characters are read from codes; (*strings.Builder).WriteByte laid by hand (the shelf's own laying stumbles over a type that no body names). -/
-- SIMP: beq_self_eq_true, Bool.and_self
namespace Go.Proofs.YtjedikaidbobdaaGreatDoor
open Go.RowKit Go.Shelf
set_option linter.unusedVariables false
set_option linter.unusedSimpArgs false
def ren167 : Go.Shelf.Ren := ⟨fun | 167 => 98 | 240 => 111 | 276 => 126 | n => n, Tryz.lays105_ren.t, fun n => n⟩
theorem lays167 : Go.Proofs.Lays.n167 Tryz.prog ren167 := {
  mixed := by kernel_rfl
  f167 := Tryz.func98.trans (congrArg some (by kernel_rfl))
  f240 := Tryz.func111.trans (congrArg some (by kernel_rfl))
  f276 := Tryz.func126.trans (congrArg some (by kernel_rfl))
  t0 := Tryz.underlying0
  a0 := Tryz.isAgg0
  z0 := Tryz.sizeOf0
  v0 := Tryz.zeroValue0
  t4 := Tryz.underlying4
  a4 := Tryz.isAgg4
  z4 := Tryz.sizeOf4
  v4 := Tryz.zeroValue4
  t5 := Tryz.underlying5
  a5 := Tryz.isAgg5
  z5 := Tryz.sizeOf5
  v5 := Tryz.zeroValue5
  t9 := Tryz.underlying9
  a9 := Tryz.isAgg9
  z9 := Tryz.sizeOf9
  v9 := Tryz.zeroValue9
  t20 := Tryz.underlying20
  a20 := Tryz.isAgg20
  z20 := Tryz.sizeOf20
  v20 := Tryz.zeroValue20
  t37 := Tryz.underlying45
  a37 := Tryz.isAgg45
  z37 := Tryz.sizeOf45
  v37 := Tryz.zeroValue45
  t70 := Tryz.underlying127
  a70 := Tryz.isAgg127
  z70 := Tryz.sizeOf127
  v70 := Tryz.zeroValue127
  t72 := Tryz.underlying129
  a72 := Tryz.isAgg129
  z72 := Tryz.sizeOf129
  v72 := Tryz.zeroValue129
  t75 := Tryz.underlying117
  a75 := Tryz.isAgg117
  z75 := Tryz.sizeOf117
  v75 := Tryz.zeroValue117
  t164 := Tryz.underlying158
  a164 := Tryz.isAgg158
  z164 := Tryz.sizeOf158
  v164 := Tryz.zeroValue158 }
theorem extra167 : Builder.Extra Tryz.prog ren167 := {
  sizeBuilder := by kernel_rfl
  liesBuilder := by kernel_rfl
  t5 := Tryz.underlying5
  a5 := Tryz.isAgg5
  z5 := Tryz.sizeOf5
  v5 := Tryz.zeroValue5
  infoByte := by kernel_rfl
  cellsByte := by kernel_rfl
  sizeByte := by kernel_rfl
  neB5 := by decide }
theorem WriteByte_any (B b : Nat) (bs : List Value) (c : Int) (w : World) (h : Lib.IsBuilder 129 5 B b bs w) (hlen : bs.length + 1 ≤ 140737488355328) (hBw : B ≤ w.heap.size) :
    Calls Tryz.prog 98 #[.pointer (some ⟨b, 0, none⟩), .int .u8 c] w fun e w' => e = .returned .nilIface ∧ (Lib.BuilderAt 129 5 B b (.pointer (some ⟨b, 0, none⟩)) (bs ++ [.int .u8 c]) w' ∧ Below B w w') :=
  Any.Builder_WriteByte lays167 extra167 B b bs c w h hlen hBw
theorem idx_code : ∀ n < 256, okC (UInt8.ofNat n) = true → Lib.indexByte codesT (codeT (UInt8.ofNat n)) = ((n - 32 : Nat) : Int) := by decide +kernel
theorem IndexByte_code (c : UInt8) (h : okC c = true) : Spec Tryz.prog 115 [.str codesT, .int .u8 ((codeT c).toNat : Int)] (.int .i64 ((c.toNat - 32 : Nat) : Int)) := by
  refine spec_lib Tryz.func115 rfl (by decide) rfl fun S w vs hG hv => ?_
  obtain ⟨u, v, rfl, h1, h2⟩ := repL2 hv
  cases h1; cases h2
  refine (Tryz.strings_IndexByte _ _ w).mono ?_
  rintro e w' ⟨rfl, rfl⟩
  refine ⟨_, rfl, Chg.refl _ _, fun S' => ?_⟩
  have h3 := idx_code c.toNat c.toNat_lt (by rw [UInt8.ofNat_toNat]; exact h)
  rw [UInt8.ofNat_toNat] at h3
  show Value.int .i64 (Lib.indexByte codesT ((((codeT c).toNat : Int).toNat).toUInt8)) = _
  have h4 : (((codeT c).toNat : Int).toNat).toUInt8 = codeT c := by rw [Int.toNat_natCast]; exact UInt8.ofNat_toNat
  rw [h4, h3]
set_option maxHeartbeats 4000000 in
set_option maxRecDepth 4000 in
theorem Char_spec (c : UInt8) (h : okC c = true) : Spec Tryz.prog 97 [.int .u8 ((codeT c).toNat : Int)] (.tup [.int .u8 (c.toNat : Int), .bool true]) := by
  have hidx := IndexByte_code c h
  unfold okC at h
  simp only [Bool.and_eq_true, decide_eq_true_eq, UInt8.le_iff_toNat_le] at h
  obtain ⟨h1, h2⟩ := h
  have h1 : 32 ≤ c.toNat := h1
  have h2 : c.toNat ≤ 126 := h2
  refine spec_of tt_ok Tryz.func97 rfl (by decide) Tryz.ntmps97 (congrArg Array.toList Tryz.results97) (by simp) (by decide) rfl rfl (fun F hF => ?_)
  refine vwp_seq_k fun Na hNa => vreg tt_ok hF rfl ?_; simp only [go_sem, Int.reduceEq, Int.reduceNe, Int.reduceLT, Int.reduceLE, Nat.reduceEqDiff, Nat.reduceAdd, Nat.reduceMul, Nat.reduceLT, Nat.reduceLeDiff, Nat.reduceSub, reduceCtorEq, reduceIte, Int.reduceToNat, beq_self_eq_true, Bool.and_self]
  refine hNa _ (VWp.keepR [0] [] tt_ok hF rfl fun Nb hNb => ?_); simp only [go_sem, Int.reduceEq, Int.reduceNe, Int.reduceLT, Int.reduceLE, Nat.reduceEqDiff, Nat.reduceAdd, Nat.reduceMul, Nat.reduceLT, Nat.reduceLeDiff, Nat.reduceSub, reduceCtorEq, reduceIte, Int.reduceToNat, beq_self_eq_true, Bool.and_self]
  refine .inl ⟨_, hidx, ?_⟩; try simp only [go_sem, Int.reduceEq, Int.reduceNe, Int.reduceLT, Int.reduceLE, Nat.reduceEqDiff, Nat.reduceAdd, Nat.reduceMul, Nat.reduceLT, Nat.reduceLeDiff, Nat.reduceSub, reduceCtorEq, reduceIte, Int.reduceToNat, beq_self_eq_true, Bool.and_self]
  refine hNb _ (VWp.keep [4] [] ?_); simp only [go_sem, Int.reduceEq, Int.reduceNe, Int.reduceLT, Int.reduceLE, Nat.reduceEqDiff, Nat.reduceAdd, Nat.reduceMul, Nat.reduceLT, Nat.reduceLeDiff, Nat.reduceSub, reduceCtorEq, reduceIte, Int.reduceToNat, beq_self_eq_true, Bool.and_self]
  refine vwp_seq_k fun Nc hNc => ?_
  refine vwp_seq_k fun Nd hNd => vreg tt_ok hF rfl ?_; simp only [go_sem, Int.reduceEq, Int.reduceNe, Int.reduceLT, Int.reduceLE, Nat.reduceEqDiff, Nat.reduceAdd, Nat.reduceMul, Nat.reduceLT, Nat.reduceLeDiff, Nat.reduceSub, reduceCtorEq, reduceIte, Int.reduceToNat, beq_self_eq_true, Bool.and_self]
  refine hNd _ (VWp.keep [4,8] [] ?_); simp only [go_sem, Int.reduceEq, Int.reduceNe, Int.reduceLT, Int.reduceLE, Nat.reduceEqDiff, Nat.reduceAdd, Nat.reduceMul, Nat.reduceLT, Nat.reduceLeDiff, Nat.reduceSub, reduceCtorEq, reduceIte, Int.reduceToNat, beq_self_eq_true, Bool.and_self]
  refine vif rfl ⟨(fun ht => absurd (of_decide_eq_true ht) (by omega)), fun hf => ?_⟩
  refine vwp_skip (hNc _ ?_)
  refine vwp_seq_k fun Ne hNe => vreg tt_ok hF rfl ?_; simp only [go_sem, Int.reduceEq, Int.reduceNe, Int.reduceLT, Int.reduceLE, Nat.reduceEqDiff, Nat.reduceAdd, Nat.reduceMul, Nat.reduceLT, Nat.reduceLeDiff, Nat.reduceSub, reduceCtorEq, reduceIte, Int.reduceToNat, beq_self_eq_true, Bool.and_self]
  rw [wrap_i64 (by omega) (by omega), wrap_u8, show ((32 : Int) + ((c.toNat - 32 : Nat) : Int)) % 256 = (c.toNat : Int) from by omega]
  refine hNe _ (VWp.keep [2,3] [] ?_); simp only [go_sem, Int.reduceEq, Int.reduceNe, Int.reduceLT, Int.reduceLE, Nat.reduceEqDiff, Nat.reduceAdd, Nat.reduceMul, Nat.reduceLT, Nat.reduceLeDiff, Nat.reduceSub, reduceCtorEq, reduceIte, Int.reduceToNat, beq_self_eq_true, Bool.and_self]
  refine vwp_ret ?_
  simp only [go_sem, Int.reduceEq, Int.reduceNe, Int.reduceLT, Int.reduceLE, Nat.reduceEqDiff, Nat.reduceAdd, Nat.reduceMul, Nat.reduceLT, Nat.reduceLeDiff, Nat.reduceSub, reduceCtorEq, reduceIte, Int.reduceToNat, beq_self_eq_true, Bool.and_self]
  exact LeV.refl _
theorem Char_any (c : UInt8) (h : okC c = true) (w : World) (hg : GcW w) : Calls Tryz.prog 97 #[.int .u8 ((codeT c).toNat : Int)] w fun e w' => e = .returned (.tuple #[.int .u8 (c.toNat : Int), .bool true]) ∧ Below w.heap.size w w' := by
  refine ((Char_spec c h).run (fun _ _ => False) w [.int .u8 ((codeT c).toNat : Int)] (fun _ _ h => h.elim) ⟨fun _ _ _ h => h, hg⟩ ⟨_, _, rfl, rfl, rfl⟩).mono ?_
  rintro e w' ⟨v, rfl, hc, hr⟩
  obtain ⟨cs, rfl, u1, us1, rfl, h1, u2, us2, rfl, h2, h3⟩ := hr
  cases h1; cases h2; cases h3
  exact ⟨rfl, hc.nil_below⟩
theorem builder_below {B b : Nat} {bs : List Value} {w w' : World} (h : Lib.IsBuilder 129 5 B b bs w) (hb : Below w.heap.size w w') : Lib.IsBuilder 129 5 B b bs w' := by
  have key : ∀ p, Lib.BuilderAt 129 5 B b p bs w → Lib.BuilderAt 129 5 B b p bs w' := fun p ⟨h1, v, h2, h3, h4⟩ =>
    ⟨h1, v, (hb.block b (lt_of_block h2)).trans h2, ownK_keep1 h3 (Chg.of_below hb []), h4⟩
  rcases h with h | h
  · exact .inl (key _ h)
  · exact .inr (key _ h)
set_option maxRecDepth 100000 in
set_option maxHeartbeats 4000000 in
theorem Decode_any (t : Bs) (ht : txtT t = true) (hl : t.length ≤ 1000000) (w : World) (hg : GcW w) (b p cap : Nat) (hcell : ∀ i (h : i < t.length), w.cell? ⟨b, p + i, none⟩ = some (.int .u8 ((codeT t[i]).toNat : Int))) (hnc : t.length ≤ cap) (hcm : cap ≤ maxLen) :
    Calls Tryz.prog 75 #[.slice (some ⟨b, p, none⟩) t.length cap] w fun e w' => e = .returned (.string ⟨t.toArray⟩) ∧ Chg [] w w' := by
  unfold maxLen at hcm
  obtain ⟨n, hn⟩ : ∃ n, t.length = n := ⟨_, rfl⟩
  have HC := hid hcell
  have HG := hid hg
  have HT := hid ht
  clear hcell hg ht
  rw [hn] at hnc ⊢
  have hl : n ≤ 1000000 := by omega
  have HN := hid hn
  go_enter Tryz.func75, Tryz.ntmps75
  go_wp2_with (fail)
  have hb0 : Lib.IsBuilder 129 5 w.heap.size w.heap.size (Lib.byteCells (t.take 0)) (w.alloc (.cells #[.pointer none, .slice none 0 0] 129)) :=
    .inl ⟨Nat.le_refl _, .slice none 0 0, heap_alloc_new w _, World.ownsRow_nil _ _ _ _, by simp [Value.ownBlock]⟩
  have hbel0 : Below w.heap.size w (w.alloc (.cells #[.pointer none, .slice none 0 0] 129)) := (Below.refl _ w).alloc (Nat.le_refl _) _
  go_loopw [10] (fun i wr => ∃ k : Nat, k ≤ n ∧ i = .int .i64 (k : Int) ∧ Lib.IsBuilder 129 5 w.heap.size w.heap.size (Lib.byteCells (t.take k)) wr ∧ Below w.heap.size w wr) (fun i _ => n - (intOf i).toNat)
  case atStart => exact ⟨0, Nat.zero_le _, rfl, hb0, hbel0⟩
  case round =>
    obtain ⟨k, hk, rfl, hbr, hbel⟩ := hrel
    have hsz := hbel.size
    by_cases hlt : k < n
    · have hlt2 : k < t.length := by omega
      have hck := List.all_eq_true.1 HT.out t[k] (List.getElem_mem hlt2)
      have hcl : wr.cell? ⟨b, p + k, none⟩ = some (.int .u8 ((codeT t[k]).toNat : Int)) := by
        have h1 := HC.out k hlt2
        have h2 := World.block_lt_of_cell? w _ h1
        simp only at h2
        rw [hbel.cell (by simpa using h2)]; exact h1
      have hstep : Lib.byteCells (t.take (k + 1)) = Lib.byteCells (t.take k) ++ [.int .u8 (t[k].toNat : Int)] := by
        rw [List.take_succ_eq_append_getElem hlt2, Lib.byteCells, List.map_append]; rfl
      have hlen : (Lib.byteCells (t.take k)).length + 1 ≤ 140737488355328 := by rw [Lib.byteCells_length, List.length_take]; omega
      have HCh := hid (fun W (h : Below wr.heap.size wr W) => Char_any t[k] hck W (gc_below HG.out (hbel.trans (h.mono hsz))))
      have HB := hid (And.intro hbr (And.intro hbel hstep))
      clear hbr hbel hstep hb0 hbel0 hck
      generalize t[k] = c at *
      go_wp2_with (first
        | (go_at_call 97; refine (HCh.out _ (Below.refl _ _)).mono ?_; rintro e w1 ⟨rfl, hb1⟩)
        | (go_at_call 98; refine (WriteByte_any w.heap.size w.heap.size _ _ _ (builder_below HB.out.1 hb1) hlen (by have := hb1.size; omega)).mono ?_; rintro e w2 ⟨rfl, hb2, hb3⟩))
      go_round
      case rel => exact ⟨_, _, _, _, _, _, _, _, _, _, _, _, _, _, _, _, _, ⟨k + 1, by omega, by go_num, by rw [HB.out.2.2]; exact .inr hb2, (HB.out.2.1.trans (hb1.mono hsz)).trans hb3⟩, rfl⟩
      case measure => simp [intOf]; omega
    · obtain rfl : k = n := by omega
      have HB := hid (And.intro hbr hbel)
      have htk : t.take k = t := by rw [List.take_of_length_le (by omega)]
      clear hbr hbel hb0 hbel0
      go_wp2_with (go_at_call 91; refine (Tryz.Builder_String_any w.heap.size w.heap.size t _ (by have := HB.out.1; rw [htk] at this; exact this) (by omega)).mono ?_; rintro e w1 ⟨rfl, hb1⟩)
      go_returns
      exact ⟨rfl, Chg.of_below (HB.out.2.trans hb1) []⟩
theorem Decode_spec (t : Bs) (ht : txtT t = true) (h0 : t ≠ []) (hl : t.length ≤ 1000000) : Spec Tryz.prog 75 [u8V (encT t)] (.str t) := by
  refine ⟨⟨_, Tryz.func75, rfl, by decide⟩, rfl, fun M w vs hM hG hv => ?_⟩
  obtain ⟨u, rfl, h1⟩ := repL1 hv
  obtain ⟨a, cap, rfl, c1, c2, c3, c4, c5, c6⟩ := h1
  have hlen : ((encT t).map u8c).length = t.length := by simp [encT]
  have hne : ((encT t).map u8c) ≠ [] := fun q => by rw [q] at hlen; exact h0 (List.eq_nil_of_length_eq_zero hlen.symm)
  cases a with
  | none => exact absurd (c3 rfl) hne
  | some x =>
    obtain ⟨hs, ha⟩ := c6 x rfl
    obtain ⟨xb, xo, xs⟩ := x
    have hs : xs = none := hs hne
    subst hs
    rw [hlen] at c1 ⊢
    refine (Decode_any t ht hl w hG.2 xb xo cap (fun i hi => ?_) c1 c2).mono ?_
    · have h2 := AtL.get (AtR.flat.1 ha) i (by rw [cB_flat]; simpa [encT] using hi)
      obtain ⟨_, c, hc, _, hr⟩ := h2
      have he : ((encT t).map u8c).flatten[i]'(by rw [cB_flat]; simpa [encT] using hi) = .int .u8 ((codeT t[i]).toNat : Int) := by
        simp only [cB_flat, encT, List.getElem_map]; rfl
      rw [he] at hr
      cases hr
      exact hc
    · rintro e w' ⟨rfl, hc⟩
      exact ⟨_, rfl, hc, rfl⟩
end Go.Proofs.YtjedikaidbobdaaGreatDoor
