import Derived.Outline
import Derived.Test.YtjedikaidbobdaaGreatDoorUJ

/- Layer 26: the description in a label; the volume label. -/
-- SIMP: beq_self_eq_true, Bool.and_self
namespace Go.Proofs.YtjedikaidbobdaaGreatDoor
open Go.RowKit
open Go.Lib (decDigits)
set_option linter.unusedVariables false
set_option linter.unusedSimpArgs false
theorem chg_bytes (w : World) (e : TypeId) (s : ByteArray) : Chg [] w (Lib.bytesWorld w e s) :=
  ⟨rfl, rfl, rfl, by rw [Lib.bytesWorld_size]; omega, fun k hk _ => Lib.bytesWorld_at_old w e s k hk⟩
theorem ParseUint_spec (s : Bs) (n : Nat) (hs : s.length ≤ 1000000) (hn : Lib.parseUintB 32 s = .ok n) : Spec Tryz.prog 83 [.str s, .int .i64 10, .int .i64 32] (.tup [.int .u64 (n : Int), .raw .nilIface]) := by
  refine spec_lib Tryz.func83 rfl (by decide) rfl fun S w vs hG hv => ?_
  obtain ⟨u, v, t, rfl, h1, h2, h3⟩ := repL3 hv
  cases h1; cases h2; cases h3
  refine (Tryz.strconv_ParseUint_10_at32_ok ⟨s.toArray⟩ (by show s.length ≤ _; omega) n hn w).mono ?_
  rintro e w' ⟨rfl, rfl | rfl⟩
  · exact ⟨_, rfl, Chg.refl _ _, fun S' => ⟨_, rfl, _, _, rfl, rfl, _, _, rfl, rfl, rfl⟩⟩
  · exact ⟨_, rfl, chg_bytes _ _ _, fun S' => ⟨_, rfl, _, _, rfl, rfl, _, _, rfl, rfl, rfl⟩⟩
set_option maxHeartbeats 16000000 in
set_option maxRecDepth 4000 in
theorem description_spec (t : Bs) (d : DcbT) (h80 : t.length = 80) (hf : d.fmt = 1 ∨ d.fmt = 2 ∨ d.fmt = 3)
    (e4 : t.getD 4 0 = if d.fmt = 1 then 70 else if d.fmt = 2 then 86 else 85) (e5 : t.getD 5 0 = if d.bl then 66 else 83) (e6 : t.getD 6 0 = if d.asa then 65 else 32)
    (b0 : 0 ≤ d.blk) (b1 : d.blk ≤ 1024) (r0 : 0 ≤ d.lrecl) (r1 : d.lrecl ≤ 1024)
    (e7 : (t.take 12).drop 7 = digT d.blk.toNat 5) (e12 : (t.take 17).drop 12 = digT d.lrecl.toNat 5) :
    Spec Tryz.prog 53 [.str t] (.agg (dcbC ⟨1, d.fmt, d.bl, d.asa, d.lrecl, d.blk, 0, 0⟩)) := by
  have hp1 := ParseUint_spec (digT d.blk.toNat 5) d.blk.toNat (by rw [dig_len (by omega) (by omega)]; omega) (parse_dig (by omega) (by omega))
  have hp2 := ParseUint_spec (digT d.lrecl.toNat 5) d.lrecl.toNat (by rw [dig_len (by omega) (by omega)]; omega) (parse_dig (by omega) (by omega))
  rw [Int.toNat_of_nonneg b0] at hp1
  rw [Int.toNat_of_nonneg r0] at hp2
  obtain ⟨org, fmt, bl, asa, lrecl, blk, klen, kpos⟩ := d
  simp only [dcbC] at *
  have c5 : decide (((t.getD 5 0).toNat : Int) = 66) = bl := by rw [e5]; cases bl <;> rfl
  have c6 : decide (((t.getD 6 0).toNat : Int) = 65) = asa := by rw [e6]; cases asa <;> rfl
  have hx : ((t.getD 4 0).toNat : Int) = (if fmt = 1 then 70 else if fmt = 2 then 86 else 85 : Int) := by
    rw [e4]; split
    · rfl
    · split <;> rfl
  generalize digT blk.toNat 5 = n1 at *
  generalize digT lrecl.toNat 5 = n2 at *
  have eI : ∀ x : Int, 0 ≤ x → x ≤ 1024 → IntKind.i64.wrap x = x := fun x h1 h2 => wrap_i64 (by omega) (by omega)
  refine spec_of tt_ok Tryz.func53 rfl (by decide) Tryz.ntmps53 (congrArg Array.toList Tryz.results53) (by simp) (by decide) rfl rfl (fun F hF => ?_)
  refine vwp_seq_k fun Na hNa => vreg tt_ok hF rfl ?_; simp only [go_sem, Int.reduceEq, Int.reduceNe, Int.reduceLT, Int.reduceLE, Nat.reduceEqDiff, Nat.reduceAdd, Nat.reduceMul, Nat.reduceLT, Nat.reduceLeDiff, Nat.reduceSub, reduceCtorEq, reduceIte, Int.reduceToNat, beq_self_eq_true, Bool.and_self]
  refine hNa _ (VWp.keep [0,2] [2] ?_); simp only [go_sem, Int.reduceEq, Int.reduceNe, Int.reduceLT, Int.reduceLE, Nat.reduceEqDiff, Nat.reduceAdd, Nat.reduceMul, Nat.reduceLT, Nat.reduceLeDiff, Nat.reduceSub, reduceCtorEq, reduceIte, Int.reduceToNat, beq_self_eq_true, Bool.and_self]
  refine vwp_seq_k fun Nb hNb => vregd tt_ok mixed hF rfl (by kernel_rfl) (by kernel_rfl) ?_; simp only [go_sem, Int.reduceEq, Int.reduceNe, Int.reduceLT, Int.reduceLE, Nat.reduceEqDiff, Nat.reduceAdd, Nat.reduceMul, Nat.reduceLT, Nat.reduceLeDiff, Nat.reduceSub, reduceCtorEq, reduceIte, Int.reduceToNat, beq_self_eq_true, Bool.and_self]
  refine ⟨by omega, by omega, ?_⟩
  rw [c5, c6]
  refine hNb _ (VWp.keep [0,2,3] [2,3] ?_); simp only [go_sem, Int.reduceEq, Int.reduceNe, Int.reduceLT, Int.reduceLE, Nat.reduceEqDiff, Nat.reduceAdd, Nat.reduceMul, Nat.reduceLT, Nat.reduceLeDiff, Nat.reduceSub, reduceCtorEq, reduceIte, Int.reduceToNat, beq_self_eq_true, Bool.and_self]
  refine vmeet (fun _ : Nat => [(0, .str t), (2, .ptr 2 0), (3, .ptr 3 0)]) (fun _ => [(2, .box 41 [.int .i64 0, .int .i64 0, .bool false, .bool false, .int .i64 0, .int .i64 0, .int .i64 0, .int .i64 0]), (3, .box 41 [.int .i64 1, .int .i64 fmt, .bool bl, .bool asa, .int .i64 0, .int .i64 0, .int .i64 0, .int .i64 0])]) (fun z => z = 0) ?_ ?_
  · refine vwp_seq_k fun Nd hNd => vreg tt_ok hF rfl ?_; simp only [go_sem, Int.reduceEq, Int.reduceNe, Int.reduceLT, Int.reduceLE, Nat.reduceEqDiff, Nat.reduceAdd, Nat.reduceMul, Nat.reduceLT, Nat.reduceLeDiff, Nat.reduceSub, reduceCtorEq, reduceIte, Int.reduceToNat, beq_self_eq_true, Bool.and_self]
    refine ⟨by omega, ?_⟩
    rw [hx]
    refine hNd _ (VWp.keep [0,2,3,16] [2,3] ?_); simp only [go_sem, Int.reduceEq, Int.reduceNe, Int.reduceLT, Int.reduceLE, Nat.reduceEqDiff, Nat.reduceAdd, Nat.reduceMul, Nat.reduceLT, Nat.reduceLeDiff, Nat.reduceSub, reduceCtorEq, reduceIte, Int.reduceToNat, beq_self_eq_true, Bool.and_self]
    refine vwp_block ?_
    refine vwp_seq_k fun Ne hNe => vreg tt_ok hF rfl ?_; simp only [go_sem, Int.reduceEq, Int.reduceNe, Int.reduceLT, Int.reduceLE, Nat.reduceEqDiff, Nat.reduceAdd, Nat.reduceMul, Nat.reduceLT, Nat.reduceLeDiff, Nat.reduceSub, reduceCtorEq, reduceIte, Int.reduceToNat, beq_self_eq_true, Bool.and_self]
    refine hNe _ (VWp.keep [0,2,3,16,17] [2,3] ?_); simp only [go_sem, Int.reduceEq, Int.reduceNe, Int.reduceLT, Int.reduceLE, Nat.reduceEqDiff, Nat.reduceAdd, Nat.reduceMul, Nat.reduceLT, Nat.reduceLeDiff, Nat.reduceSub, reduceCtorEq, reduceIte, Int.reduceToNat, beq_self_eq_true, Bool.and_self]
    rcases hf with hf1 | hf1 | hf1
    · subst hf1
      refine vif rfl ⟨fun ht => ?_, (fun hf => by cases hf)⟩
      refine vreg tt_ok hF rfl ?_; simp only [go_sem, Int.reduceEq, Int.reduceNe, Int.reduceLT, Int.reduceLE, Nat.reduceEqDiff, Nat.reduceAdd, Nat.reduceMul, Nat.reduceLT, Nat.reduceLeDiff, Nat.reduceSub, reduceCtorEq, reduceIte, Int.reduceToNat, beq_self_eq_true, Bool.and_self]
      first | done | exact ⟨0, rfl⟩ | rfl | simp
    · subst hf1
      refine vif rfl ⟨(fun ht => by cases ht), fun hf => ?_⟩
      refine vwp_seq_k fun Nm hNm => vreg tt_ok hF rfl ?_; simp only [go_sem, Int.reduceEq, Int.reduceNe, Int.reduceLT, Int.reduceLE, Nat.reduceEqDiff, Nat.reduceAdd, Nat.reduceMul, Nat.reduceLT, Nat.reduceLeDiff, Nat.reduceSub, reduceCtorEq, reduceIte, Int.reduceToNat, beq_self_eq_true, Bool.and_self]
      refine hNm _ (VWp.keep [0,2,3,16,20] [2,3] ?_); simp only [go_sem, Int.reduceEq, Int.reduceNe, Int.reduceLT, Int.reduceLE, Nat.reduceEqDiff, Nat.reduceAdd, Nat.reduceMul, Nat.reduceLT, Nat.reduceLeDiff, Nat.reduceSub, reduceCtorEq, reduceIte, Int.reduceToNat, beq_self_eq_true, Bool.and_self]
      refine vif rfl ⟨fun ht => ?_, (fun hf => by cases hf)⟩
      refine vreg tt_ok hF rfl ?_; simp only [go_sem, Int.reduceEq, Int.reduceNe, Int.reduceLT, Int.reduceLE, Nat.reduceEqDiff, Nat.reduceAdd, Nat.reduceMul, Nat.reduceLT, Nat.reduceLeDiff, Nat.reduceSub, reduceCtorEq, reduceIte, Int.reduceToNat, beq_self_eq_true, Bool.and_self]
      first | done | exact ⟨0, rfl⟩ | rfl | simp
    · subst hf1
      refine vif rfl ⟨(fun ht => by cases ht), fun hf => ?_⟩
      refine vwp_seq_k fun Nm hNm => vreg tt_ok hF rfl ?_; simp only [go_sem, Int.reduceEq, Int.reduceNe, Int.reduceLT, Int.reduceLE, Nat.reduceEqDiff, Nat.reduceAdd, Nat.reduceMul, Nat.reduceLT, Nat.reduceLeDiff, Nat.reduceSub, reduceCtorEq, reduceIte, Int.reduceToNat, beq_self_eq_true, Bool.and_self]
      refine hNm _ (VWp.keep [0,2,3,16,20] [2,3] ?_); simp only [go_sem, Int.reduceEq, Int.reduceNe, Int.reduceLT, Int.reduceLE, Nat.reduceEqDiff, Nat.reduceAdd, Nat.reduceMul, Nat.reduceLT, Nat.reduceLeDiff, Nat.reduceSub, reduceCtorEq, reduceIte, Int.reduceToNat, beq_self_eq_true, Bool.and_self]
      refine vif rfl ⟨(fun ht => by cases ht), fun hf => ?_⟩
      refine vwp_seq_k fun Nn hNn => vreg tt_ok hF rfl ?_; simp only [go_sem, Int.reduceEq, Int.reduceNe, Int.reduceLT, Int.reduceLE, Nat.reduceEqDiff, Nat.reduceAdd, Nat.reduceMul, Nat.reduceLT, Nat.reduceLeDiff, Nat.reduceSub, reduceCtorEq, reduceIte, Int.reduceToNat, beq_self_eq_true, Bool.and_self]
      refine hNn _ (VWp.keep [0,2,3,23] [2,3] ?_); simp only [go_sem, Int.reduceEq, Int.reduceNe, Int.reduceLT, Int.reduceLE, Nat.reduceEqDiff, Nat.reduceAdd, Nat.reduceMul, Nat.reduceLT, Nat.reduceLeDiff, Nat.reduceSub, reduceCtorEq, reduceIte, Int.reduceToNat, beq_self_eq_true, Bool.and_self]
      refine vif rfl ⟨fun ht => ?_, (fun hf => by cases hf)⟩
      refine vreg tt_ok hF rfl ?_; simp only [go_sem, Int.reduceEq, Int.reduceNe, Int.reduceLT, Int.reduceLE, Nat.reduceEqDiff, Nat.reduceAdd, Nat.reduceMul, Nat.reduceLT, Nat.reduceLeDiff, Nat.reduceSub, reduceCtorEq, reduceIte, Int.reduceToNat, beq_self_eq_true, Bool.and_self]
      first | done | exact ⟨0, rfl⟩ | rfl | simp
  intro z hz
  refine vwp_seq_k fun Nf hNf => vreg tt_ok hF rfl ?_; simp only [go_sem, Int.reduceEq, Int.reduceNe, Int.reduceLT, Int.reduceLE, Nat.reduceEqDiff, Nat.reduceAdd, Nat.reduceMul, Nat.reduceLT, Nat.reduceLeDiff, Nat.reduceSub, reduceCtorEq, reduceIte, Int.reduceToNat, beq_self_eq_true, Bool.and_self]
  refine ⟨by omega, ?_⟩
  rw [e7]
  refine .inl ⟨_, hp1, ?_⟩; try simp only [go_sem, Int.reduceEq, Int.reduceNe, Int.reduceLT, Int.reduceLE, Nat.reduceEqDiff, Nat.reduceAdd, Nat.reduceMul, Nat.reduceLT, Nat.reduceLeDiff, Nat.reduceSub, reduceCtorEq, reduceIte, Int.reduceToNat, beq_self_eq_true, Bool.and_self]
  refine hNf _ (VWp.keepR [0,2,3,4,5] [2,3] tt_ok hF rfl fun Ng hNg => ?_); simp only [go_sem, Int.reduceEq, Int.reduceNe, Int.reduceLT, Int.reduceLE, Nat.reduceEqDiff, Nat.reduceAdd, Nat.reduceMul, Nat.reduceLT, Nat.reduceLeDiff, Nat.reduceSub, reduceCtorEq, reduceIte, Int.reduceToNat, beq_self_eq_true, Bool.and_self]
  refine ⟨by omega, ?_⟩
  rw [e12]
  refine .inl ⟨_, hp2, ?_⟩; try simp only [go_sem, Int.reduceEq, Int.reduceNe, Int.reduceLT, Int.reduceLE, Nat.reduceEqDiff, Nat.reduceAdd, Nat.reduceMul, Nat.reduceLT, Nat.reduceLeDiff, Nat.reduceSub, reduceCtorEq, reduceIte, Int.reduceToNat, beq_self_eq_true, Bool.and_self]
  refine hNg _ (VWp.keep [2,3,4,5,6,7] [2,3] ?_); simp only [go_sem, Int.reduceEq, Int.reduceNe, Int.reduceLT, Int.reduceLE, Nat.reduceEqDiff, Nat.reduceAdd, Nat.reduceMul, Nat.reduceLT, Nat.reduceLeDiff, Nat.reduceSub, reduceCtorEq, reduceIte, Int.reduceToNat, beq_self_eq_true, Bool.and_self]
  refine vwp_seq_k fun Nh hNh => ?_
  refine vwp_seq_k fun Ni hNi => vreg tt_ok hF rfl ?_; simp only [go_sem, Int.reduceEq, Int.reduceNe, Int.reduceLT, Int.reduceLE, Nat.reduceEqDiff, Nat.reduceAdd, Nat.reduceMul, Nat.reduceLT, Nat.reduceLeDiff, Nat.reduceSub, reduceCtorEq, reduceIte, Int.reduceToNat, beq_self_eq_true, Bool.and_self]
  refine hNi _ (VWp.keep [2,3,4,6,43] [2,3] ?_); simp only [go_sem, Int.reduceEq, Int.reduceNe, Int.reduceLT, Int.reduceLE, Nat.reduceEqDiff, Nat.reduceAdd, Nat.reduceMul, Nat.reduceLT, Nat.reduceLeDiff, Nat.reduceSub, reduceCtorEq, reduceIte, Int.reduceToNat, beq_self_eq_true, Bool.and_self]
  refine vif rfl ⟨(fun ht => by cases ht), fun hf => ?_⟩
  refine vwp_skip (hNh _ ?_)
  refine vwp_seq_k fun Nk hNk => vreg tt_ok hF rfl ?_; simp only [go_sem, Int.reduceEq, Int.reduceNe, Int.reduceLT, Int.reduceLE, Nat.reduceEqDiff, Nat.reduceAdd, Nat.reduceMul, Nat.reduceLT, Nat.reduceLeDiff, Nat.reduceSub, reduceCtorEq, reduceIte, Int.reduceToNat, beq_self_eq_true, Bool.and_self]
  refine hNk _ (VWp.keepR [2,3] [2,3] tt_ok hF rfl fun Nl hNl => ?_); simp only [go_sem, Int.reduceEq, Int.reduceNe, Int.reduceLT, Int.reduceLE, Nat.reduceEqDiff, Nat.reduceAdd, Nat.reduceMul, Nat.reduceLT, Nat.reduceLeDiff, Nat.reduceSub, reduceCtorEq, reduceIte, Int.reduceToNat, beq_self_eq_true, Bool.and_self]
  refine hNl _ (VWp.keep [2] [2] ?_); simp only [go_sem, Int.reduceEq, Int.reduceNe, Int.reduceLT, Int.reduceLE, Nat.reduceEqDiff, Nat.reduceAdd, Nat.reduceMul, Nat.reduceLT, Nat.reduceLeDiff, Nat.reduceSub, reduceCtorEq, reduceIte, Int.reduceToNat, beq_self_eq_true, Bool.and_self]
  refine vwp_ret ?_
  simp only [go_sem, Int.reduceEq, Int.reduceNe, Int.reduceLT, Int.reduceLE, Nat.reduceEqDiff, Nat.reduceAdd, Nat.reduceMul, Nat.reduceLT, Nat.reduceLeDiff, Nat.reduceSub, reduceCtorEq, reduceIte, Int.reduceToNat, beq_self_eq_true, Bool.and_self]
  rw [eI _ r0 r1, eI _ b0 b1]
  exact LeV.refl _
end Go.Proofs.YtjedikaidbobdaaGreatDoor

/- Layer 26: a file of a tape is read. -/
-- SIMP: beq_self_eq_true, Bool.and_self
namespace Go.Proofs.YtjedikaidbobdaaGreatDoor
open Go.RowKit
open Go.Lib (decDigits)
set_option linter.unusedVariables false
set_option linter.unusedSimpArgs false
set_option maxHeartbeats 16000000 in
set_option maxRecDepth 4000 in
theorem pair_spec (kind : Tb) (n count : Nat) (f : FilT) (hf : LabOk f) (hk : txtT kind = true) (hl : kind.length = 3) (hn : n < 9999) (hc : count < 1000000) :
    Spec Tryz.prog 42 [.str kind, .int .i64 (n : Int), .int .i64 (count : Int), filV f] (.sl 3 ((pairT kind n count f).map tbC)) := by
  have h1 := hf.b0; have h2 := hf.b1; have h3 := hf.r0; have h4 := hf.r1; have h5 := hf.nl
  have k1 := lab1_ok hf hk hl hn hc
  have k2 := lab2_ok hf hk hl
  have hl1 := label_spec _ k1.1 (by rw [k1.2]; omega)
  have hl2 := label_spec _ k2.1 (by have := k2.2; omega)
  have hrep := Repeat_spec 32 (44 - f.name.length) (by omega)
  have hd1 : Spec Tryz.prog 67 [.int .i64 ((n : Int) + 1), .int .i64 4] (.str (digT (n + 1) 4)) := digits_spec (n + 1) 4 (by omega) (by omega)
  have hd2 : Spec Tryz.prog 67 [.int .i64 (count : Int), .int .i64 6] (.str (digT count 6)) := digits_spec count 6 (by omega) (by omega)
  have hd3 : Spec Tryz.prog 67 [.int .i64 (f.dcb.blk.toNat : Int), .int .i64 5] (.str (digT f.dcb.blk.toNat 5)) := digits_spec f.dcb.blk.toNat 5 (by omega) (by omega)
  have hd4 : Spec Tryz.prog 67 [.int .i64 (f.dcb.lrecl.toNat : Int), .int .i64 5] (.str (digT f.dcb.lrecl.toNat 5)) := digits_spec f.dcb.lrecl.toNat 5 (by omega) (by omega)
  rw [Int.toNat_of_nonneg h1] at hd3
  rw [Int.toNat_of_nonneg h3] at hd4
  have he1 := either_spec f.dcb.bl [66] [83]
  have he2 := either_spec f.dcb.asa [65] [32]
  have hsub : (44 : Int) - (f.name.length : Int) = ((44 - f.name.length : Nat) : Int) := by omega
  have g1 : (digT (n + 1) 4).length = 4 := dig_len (by omega) (by omega)
  have g2 : (digT count 6).length = 6 := dig_len (by omega) (by omega)
  have g3 : (digT f.dcb.blk.toNat 5).length = 5 := dig_len (by omega) (by omega)
  have g4 : (digT f.dcb.lrecl.toNat 5).length = 5 := dig_len (by omega) (by omega)
  have g5 : (if f.dcb.bl = true then [66] else [83] : Tb).length = 1 := by split <;> rfl
  have g6 : (if f.dcb.asa = true then [65] else [32] : Tb).length = 1 := by split <;> rfl
  have g7 := (fmt_txt f.dcb.fmt).2
  have g8 : (List.replicate (44 - f.name.length) (32 : UInt8)).length = 44 - f.name.length := by simp
  simp only [pairT, List.map_cons, List.map_nil]
  unfold lab1 padB at hl1 ⊢
  unfold lab2 at hl2 ⊢
  simp only [tbC, labT, u8V] at hl1 hl2 ⊢
  unfold filV filC
  generalize hR : List.replicate (44 - f.name.length) (32 : UInt8) = R at *
  generalize digT (n + 1) 4 = D1 at *
  generalize digT count 6 = D2 at *
  generalize digT f.dcb.blk.toNat 5 = D3 at *
  generalize digT f.dcb.lrecl.toNat 5 = D4 at *
  generalize (if f.dcb.bl = true then [66] else [83] : Tb) = E1 at *
  generalize (if f.dcb.asa = true then [65] else [32] : Tb) = E2 at *
  refine spec_of tt_ok Tryz.func42 rfl (by decide) Tryz.ntmps42 (congrArg Array.toList Tryz.results42) (by simp) (by decide) rfl rfl (fun F hF => ?_)
  refine vwp_seq_k fun Na hNa => vreg tt_ok hF rfl ?_; simp only [go_sem, Int.reduceEq, Int.reduceNe, Int.reduceLT, Int.reduceLE, Nat.reduceEqDiff, Nat.reduceAdd, Nat.reduceMul, Nat.reduceLT, Nat.reduceLeDiff, Nat.reduceSub, reduceCtorEq, reduceIte, Int.reduceToNat, beq_self_eq_true, Bool.and_self]
  refine hNa _ (VWp.keep [0,1,2,7] [7] ?_); simp only [go_sem, Int.reduceEq, Int.reduceNe, Int.reduceLT, Int.reduceLE, Nat.reduceEqDiff, Nat.reduceAdd, Nat.reduceMul, Nat.reduceLT, Nat.reduceLeDiff, Nat.reduceSub, reduceCtorEq, reduceIte, Int.reduceToNat, beq_self_eq_true, Bool.and_self]
  refine vwp_seq_k fun Nb hNb => vwp_fmt hF ⟨rfl, rfl, rfl⟩ ⟨rfl, rfl, rfl⟩ ⟨rfl, rfl, rfl⟩ ⟨rfl, rfl, rfl⟩ ⟨rfl, rfl, rfl⟩ ⟨rfl, rfl, rfl⟩ ⟨rfl, rfl, rfl⟩ ⟨rfl, rfl, rfl⟩ ⟨rfl, rfl, rfl⟩ ⟨rfl, rfl, rfl⟩ rfl rfl rfl ?_
  refine hNb _ (VWp.keep [0, 1, 2, 7, 9] [7] ?_)
  simp only [go_sem, Int.reduceEq, Int.reduceNe, Int.reduceLT, Int.reduceLE, Nat.reduceEqDiff, Nat.reduceAdd, Nat.reduceMul, Nat.reduceLT, Nat.reduceLeDiff, Nat.reduceSub, reduceCtorEq, reduceIte, Int.reduceToNat, beq_self_eq_true, Bool.and_self]
  generalize fmtS f.dcb.fmt = M at *
  refine vwp_seq_k fun Nc hNc => vregd tt_ok mixed hF rfl (by kernel_rfl) (by kernel_rfl) ?_; simp only [go_sem, Int.reduceEq, Int.reduceNe, Int.reduceLT, Int.reduceLE, Nat.reduceEqDiff, Nat.reduceAdd, Nat.reduceMul, Nat.reduceLT, Nat.reduceLeDiff, Nat.reduceSub, reduceCtorEq, reduceIte, Int.reduceToNat, beq_self_eq_true, Bool.and_self]
  rw [wrap_i64 (by omega) (by omega), hsub]
  refine .inl ⟨_, hrep, ?_⟩; try simp only [go_sem, Int.reduceEq, Int.reduceNe, Int.reduceLT, Int.reduceLE, Nat.reduceEqDiff, Nat.reduceAdd, Nat.reduceMul, Nat.reduceLT, Nat.reduceLeDiff, Nat.reduceSub, reduceCtorEq, reduceIte, Int.reduceToNat, beq_self_eq_true, Bool.and_self]
  refine ⟨by omega, ?_⟩
  refine hNc _ (VWp.keep [0,1,2,7,9,10] [7] ?_); simp only [go_sem, Int.reduceEq, Int.reduceNe, Int.reduceLT, Int.reduceLE, Nat.reduceEqDiff, Nat.reduceAdd, Nat.reduceMul, Nat.reduceLT, Nat.reduceLeDiff, Nat.reduceSub, reduceCtorEq, reduceIte, Int.reduceToNat, beq_self_eq_true, Bool.and_self]
  refine vwp_seq_k fun Nd hNd => vregd tt_ok mixed hF rfl (by kernel_rfl) (by kernel_rfl) ?_; simp only [go_sem, Int.reduceEq, Int.reduceNe, Int.reduceLT, Int.reduceLE, Nat.reduceEqDiff, Nat.reduceAdd, Nat.reduceMul, Nat.reduceLT, Nat.reduceLeDiff, Nat.reduceSub, reduceCtorEq, reduceIte, Int.reduceToNat, beq_self_eq_true, Bool.and_self]
  rw [wrap_i64 (by omega) (by omega)]
  refine ⟨by first | omega | (simp only [List.length_append, List.length_cons, List.length_nil]; omega), by first | omega | (simp only [List.length_append, List.length_cons, List.length_nil]; omega), ?_⟩
  refine .inl ⟨_, hd1, ?_⟩; try simp only [go_sem, Int.reduceEq, Int.reduceNe, Int.reduceLT, Int.reduceLE, Nat.reduceEqDiff, Nat.reduceAdd, Nat.reduceMul, Nat.reduceLT, Nat.reduceLeDiff, Nat.reduceSub, reduceCtorEq, reduceIte, Int.reduceToNat, beq_self_eq_true, Bool.and_self]
  refine ⟨by first | omega | (simp only [List.length_append, List.length_cons, List.length_nil]; omega), ?_⟩
  refine .inl ⟨_, hd2, ?_⟩; try simp only [go_sem, Int.reduceEq, Int.reduceNe, Int.reduceLT, Int.reduceLE, Nat.reduceEqDiff, Nat.reduceAdd, Nat.reduceMul, Nat.reduceLT, Nat.reduceLeDiff, Nat.reduceSub, reduceCtorEq, reduceIte, Int.reduceToNat, beq_self_eq_true, Bool.and_self]
  refine ⟨by first | omega | (simp only [List.length_append, List.length_cons, List.length_nil]; omega), ?_⟩
  refine .inl ⟨_, hl1, ?_⟩; try simp only [go_sem, Int.reduceEq, Int.reduceNe, Int.reduceLT, Int.reduceLE, Nat.reduceEqDiff, Nat.reduceAdd, Nat.reduceMul, Nat.reduceLT, Nat.reduceLeDiff, Nat.reduceSub, reduceCtorEq, reduceIte, Int.reduceToNat, beq_self_eq_true, Bool.and_self]
  refine ⟨by first | omega | (simp only [List.length_append, List.length_cons, List.length_nil]; omega), by first | omega | (simp only [List.length_append, List.length_cons, List.length_nil]; omega), ?_⟩
  refine .inl ⟨_, he1, ?_⟩; try simp only [go_sem, Int.reduceEq, Int.reduceNe, Int.reduceLT, Int.reduceLE, Nat.reduceEqDiff, Nat.reduceAdd, Nat.reduceMul, Nat.reduceLT, Nat.reduceLeDiff, Nat.reduceSub, reduceCtorEq, reduceIte, Int.reduceToNat, beq_self_eq_true, Bool.and_self]
  refine ⟨by first | omega | (simp only [List.length_append, List.length_cons, List.length_nil]; omega), ?_⟩
  refine .inl ⟨_, he2, ?_⟩; try simp only [go_sem, Int.reduceEq, Int.reduceNe, Int.reduceLT, Int.reduceLE, Nat.reduceEqDiff, Nat.reduceAdd, Nat.reduceMul, Nat.reduceLT, Nat.reduceLeDiff, Nat.reduceSub, reduceCtorEq, reduceIte, Int.reduceToNat, beq_self_eq_true, Bool.and_self]
  refine ⟨by first | omega | (simp only [List.length_append, List.length_cons, List.length_nil]; omega), ?_⟩
  refine .inl ⟨_, hd3, ?_⟩; try simp only [go_sem, Int.reduceEq, Int.reduceNe, Int.reduceLT, Int.reduceLE, Nat.reduceEqDiff, Nat.reduceAdd, Nat.reduceMul, Nat.reduceLT, Nat.reduceLeDiff, Nat.reduceSub, reduceCtorEq, reduceIte, Int.reduceToNat, beq_self_eq_true, Bool.and_self]
  refine ⟨by first | omega | (simp only [List.length_append, List.length_cons, List.length_nil]; omega), ?_⟩
  refine .inl ⟨_, hd4, ?_⟩; try simp only [go_sem, Int.reduceEq, Int.reduceNe, Int.reduceLT, Int.reduceLE, Nat.reduceEqDiff, Nat.reduceAdd, Nat.reduceMul, Nat.reduceLT, Nat.reduceLeDiff, Nat.reduceSub, reduceCtorEq, reduceIte, Int.reduceToNat, beq_self_eq_true, Bool.and_self]
  refine ⟨by first | omega | (simp only [List.length_append, List.length_cons, List.length_nil]; omega), ?_⟩
  refine .inl ⟨_, hl2, ?_⟩; try simp only [go_sem, Int.reduceEq, Int.reduceNe, Int.reduceLT, Int.reduceLE, Nat.reduceEqDiff, Nat.reduceAdd, Nat.reduceMul, Nat.reduceLT, Nat.reduceLeDiff, Nat.reduceSub, reduceCtorEq, reduceIte, Int.reduceToNat, beq_self_eq_true, Bool.and_self]
  refine hNd _ (VWp.keep [8] [62] ?_); simp only [go_sem, Int.reduceEq, Int.reduceNe, Int.reduceLT, Int.reduceLE, Nat.reduceEqDiff, Nat.reduceAdd, Nat.reduceMul, Nat.reduceLT, Nat.reduceLeDiff, Nat.reduceSub, reduceCtorEq, reduceIte, Int.reduceToNat, beq_self_eq_true, Bool.and_self]
  refine vwp_ret ?_
  simp only [go_sem, Int.reduceEq, Int.reduceNe, Int.reduceLT, Int.reduceLE, Nat.reduceEqDiff, Nat.reduceAdd, Nat.reduceMul, Nat.reduceLT, Nat.reduceLeDiff, Nat.reduceSub, reduceCtorEq, reduceIte, Int.reduceToNat, beq_self_eq_true, Bool.and_self]
  exact LeV.refl _
structure LieT (B : List TbT) (i n : Nat) (f : FilT) (data : List Tb) : Prop where
  p0 : B[i]? = some (labT (lab1 hdrS n 0 f))
  p1 : B[i + 1]? = some (labT (lab2 hdrS f))
  p2 : B[i + 2]? = some mrkT
  pd : ∀ k (h : k < data.length), B[i + 3 + k]? = some (datT data[k])
  q0 : B[i + 3 + data.length]? = some mrkT
  q1 : B[i + 4 + data.length]? = some (labT (lab1 eofS n data.length f))
  q2 : B[i + 5 + data.length]? = some (labT (lab2 eofS f))
  q3 : B[i + 6 + data.length]? = some mrkT
theorem lie_of (A Z : List TbT) (n : Nat) (f : FilT) (data : List Tb) : LieT (A ++ blocksT n f data ++ Z) A.length n f data := by
  have e : A ++ blocksT n f data ++ Z = A ++ ([labT (lab1 hdrS n 0 f), labT (lab2 hdrS f), mrkT] ++ (data.map datT ++ ([mrkT, labT (lab1 eofS n data.length f), labT (lab2 eofS f), mrkT] ++ Z))) := by
    simp [blocksT, pairT]
  rw [e]
  refine ⟨?_, ?_, ?_, fun k hk => ?_, ?_, ?_, ?_, ?_⟩
  · rw [List.getElem?_append_right (by omega)]; simp
  · rw [List.getElem?_append_right (by omega)]; simp
  · rw [List.getElem?_append_right (by omega)]; simp
  · rw [List.getElem?_append_right (by omega), List.getElem?_append_right (by simp; omega), List.getElem?_append_left (by simp; omega), List.getElem?_map, show A.length + 3 + k - A.length - [labT (lab1 hdrS n 0 f), labT (lab2 hdrS f), mrkT].length = k by simp; omega, List.getElem?_eq_getElem hk]; rfl
  all_goals
    rw [List.getElem?_append_right (by omega), List.getElem?_append_right (by simp; omega), List.getElem?_append_right (by simp; omega)]
  · rw [show A.length + 3 + data.length - A.length - [labT (lab1 hdrS n 0 f), labT (lab2 hdrS f), mrkT].length - (data.map datT).length = 0 by simp; omega]; rfl
  · rw [show A.length + 4 + data.length - A.length - [labT (lab1 hdrS n 0 f), labT (lab2 hdrS f), mrkT].length - (data.map datT).length = 1 by simp; omega]; rfl
  · rw [show A.length + 5 + data.length - A.length - [labT (lab1 hdrS n 0 f), labT (lab2 hdrS f), mrkT].length - (data.map datT).length = 2 by simp; omega]; rfl
  · rw [show A.length + 6 + data.length - A.length - [labT (lab1 hdrS n 0 f), labT (lab2 hdrS f), mrkT].length - (data.map datT).length = 3 by simp; omega]; rfl
theorem take_lab (kind s : Bs) (B : List TbT) (i j : Nat) (hB : B.length ≤ 1000000000) (hb : B[i]? = some (labT s)) (hs : txtT s = true) (hl : s.length ≤ 80) (hk : kind.isPrefixOf (padB s 80) = true) (hj : j = i + 1) :
    SpecB Tryz.prog 50 [.ptr 1000000 0, .str kind] [(1000000, scnO B i)] (.tup [.str (padB s 80), .bool true]) [(1000000, scnO B j)] := by
  subst hj
  obtain ⟨hi, hb⟩ := List.getElem?_eq_some_iff.1 hb
  exact take_B kind (padB s 80) B i hi hB hb (padB_txt s 80 hs) (padB_len s 80 hl) hk
theorem mark_at (B : List TbT) (i j : Nat) (hB : B.length ≤ 1000000000) (hb : B[i]? = some mrkT) (hj : j = i + 1) :
    SpecB Tryz.prog 36 [.ptr 1000000 0] [(1000000, scnO B i)] (.bool true) [(1000000, scnO B j)] := by
  subst hj
  obtain ⟨hi, hb⟩ := List.getElem?_eq_some_iff.1 hb
  exact mark_B B i hi hB (by rw [hb]; rfl)
theorem lab2_desc {kind : Tb} {f : FilT} (hk : kind.length = 3) (hf : LabOk f) (h : f.dcb.fmt = 1 ∨ f.dcb.fmt = 2 ∨ f.dcb.fmt = 3) : let t := padB (lab2 kind f) 80;
    t.getD 4 0 = (if f.dcb.fmt = 1 then 70 else if f.dcb.fmt = 2 then 86 else 85) ∧ t.getD 5 0 = (if f.dcb.bl then 66 else 83) ∧ t.getD 6 0 = (if f.dcb.asa then 65 else 32) ∧ (t.take 12).drop 7 = digT f.dcb.blk.toNat 5 ∧ (t.take 17).drop 12 = digT f.dcb.lrecl.toNat 5 := by
  intro t
  have h1 := hf.b0; have h2 := hf.b1; have h3 := hf.r0; have h4 := hf.r1
  have g3 : (digT f.dcb.blk.toNat 5).length = 5 := dig_len (by omega) (by omega)
  have g4 : (digT f.dcb.lrecl.toNat 5).length = 5 := dig_len (by omega) (by omega)
  obtain ⟨a, b, c, rfl⟩ : ∃ a b c, kind = [a, b, c] := by
    match kind, hk with
    | [a, b, c], _ => exact ⟨a, b, c, rfl⟩
  obtain ⟨m, hm, hm2⟩ : ∃ m, fmtS f.dcb.fmt = [m] ∧ m = (if f.dcb.fmt = 1 then 70 else if f.dcb.fmt = 2 then 86 else 85) := by
    rcases h with h | h | h <;> rw [h] <;> exact ⟨_, rfl, rfl⟩
  obtain ⟨x, hx⟩ : ∃ x, (if f.dcb.bl then [66] else [83] : Tb) = [x] ∧ x = (if f.dcb.bl then 66 else 83) := by cases f.dcb.bl <;> exact ⟨_, rfl, rfl⟩
  obtain ⟨y, hy⟩ : ∃ y, (if f.dcb.asa then [65] else [32] : Tb) = [y] ∧ y = (if f.dcb.asa then 65 else 32) := by cases f.dcb.asa <;> exact ⟨_, rfl, rfl⟩
  have ht : t = [a, b, c] ++ [50] ++ [m] ++ [x] ++ [y] ++ digT f.dcb.blk.toNat 5 ++ digT f.dcb.lrecl.toNat 5 ++ List.replicate (80 - (lab2 [a, b, c] f).length) 32 := by
    show padB (lab2 [a, b, c] f) 80 = _
    unfold padB
    congr 1
    unfold lab2
    rw [hm, hx.1, hy.1]
  rw [ht, ← hm2, ← hx.2, ← hy.2]
  generalize List.replicate (80 - (lab2 [a, b, c] f).length) (32 : UInt8) = R
  match digT f.dcb.blk.toNat 5, g3, digT f.dcb.lrecl.toNat 5, g4 with
  | [a1, a2, a3, a4, a5], _, [b1, b2, b3, b4, b5], _ => exact ⟨rfl, rfl, rfl, rfl, rfl⟩
theorem lab1_name {kind : Tb} {n count : Nat} {f : FilT} (hk : kind.length = 3) (hf : LabOk f) : ((padB (lab1 kind n count f) 80).take 48).drop 4 = padB f.name 44 := by
  obtain ⟨a, b, c, rfl⟩ : ∃ a b c, kind = [a, b, c] := by
    match kind, hk with
    | [a, b, c], _ => exact ⟨a, b, c, rfl⟩
  have hl := padB_len f.name 44 hf.nl
  unfold lab1
  generalize padB f.name 44 = P at *
  unfold padB
  simp [hl]
end Go.Proofs.YtjedikaidbobdaaGreatDoor
