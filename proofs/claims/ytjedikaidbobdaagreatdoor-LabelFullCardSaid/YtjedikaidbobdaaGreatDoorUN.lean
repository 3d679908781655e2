import Derived.Outline
import Derived.Test.YtjedikaidbobdaaGreatDoorUM
/- Layer 26: the labels of a file. -/
-- SIMP: beq_self_eq_true, Bool.and_self
namespace Go.Proofs.YtjedikaidbobdaaGreatDoor
open Go.RowKit
open Go.Lib (decDigits)
set_option linter.unusedVariables false
set_option linter.unusedSimpArgs false
structure FilT where
  name : Tb
  dcb : DcbT
  recs : List Tb
def filC (f : FilT) : List V := [.str f.name, .int .i64 f.dcb.org, .int .i64 f.dcb.fmt, .bool f.dcb.bl, .bool f.dcb.asa, .int .i64 f.dcb.lrecl, .int .i64 f.dcb.blk, .int .i64 f.dcb.klen, .int .i64 f.dcb.kpos, .sl 1 (f.recs.map blkR)]
def filV (f : FilT) : V := .agg (filC f)
def lab1 (kind : Tb) (n count : Nat) (f : FilT) : Tb := kind ++ [49] ++ padB f.name 44 ++ digT (n + 1) 4 ++ digT count 6
def lab2 (kind : Tb) (f : FilT) : Tb := kind ++ [50] ++ fmtS f.dcb.fmt ++ (if f.dcb.bl then [66] else [83]) ++ (if f.dcb.asa then [65] else [32]) ++ digT f.dcb.blk.toNat 5 ++ digT f.dcb.lrecl.toNat 5
def pairT (kind : Tb) (n count : Nat) (f : FilT) : List TbT := [labT (lab1 kind n count f), labT (lab2 kind f)]
structure LabOk (f : FilT) : Prop where
  nt : txtT f.name = true
  nl : f.name.length ≤ 44
  b0 : 0 ≤ f.dcb.blk
  b1 : f.dcb.blk ≤ 1024
  r0 : 0 ≤ f.dcb.lrecl
  r1 : f.dcb.lrecl ≤ 1024
theorem fmt_txt (k : Int) : txtT (fmtS k) = true ∧ (fmtS k).length ≤ 1 := by
  unfold fmtS
  split
  · exact ⟨rfl, by simp⟩
  · split
    · exact ⟨rfl, by simp⟩
    · split
      · exact ⟨rfl, by simp⟩
      · exact ⟨rfl, by simp⟩
theorem lab1_ok {kind : Tb} {n count : Nat} {f : FilT} (hf : LabOk f) (hk : txtT kind = true) (hl : kind.length = 3) (hn : n < 9999) (hc : count < 1000000) : txtT (lab1 kind n count f) = true ∧ (lab1 kind n count f).length = 58 := by
  unfold lab1
  refine ⟨?_, ?_⟩
  · simp only [txt_app, hk, padB_txt _ _ hf.nt, dig_txt, Bool.and_true, Bool.true_and]; rfl
  · simp only [List.length_append, hl, padB_len _ _ hf.nl, dig_len (k := 4) (n := n + 1) (by omega) (by omega), dig_len (k := 6) (n := count) (by omega) (by omega)]; rfl
theorem lab2_ok {kind : Tb} {f : FilT} (hf : LabOk f) (hk : txtT kind = true) (hl : kind.length = 3) : txtT (lab2 kind f) = true ∧ (lab2 kind f).length ≤ 17 := by
  have h1 := hf.b0; have h2 := hf.b1; have h3 := hf.r0; have h4 := hf.r1
  obtain ⟨f1, f2⟩ := fmt_txt f.dcb.fmt
  have e1 : txtT (if f.dcb.bl then [66] else [83]) = true ∧ (if f.dcb.bl then [66] else [83] : Tb).length = 1 := by split <;> exact ⟨rfl, rfl⟩
  have e2 : txtT (if f.dcb.asa then [65] else [32]) = true ∧ (if f.dcb.asa then [65] else [32] : Tb).length = 1 := by split <;> exact ⟨rfl, rfl⟩
  unfold lab2
  refine ⟨?_, ?_⟩
  · simp only [txt_app, hk, f1, e1.1, e2.1, dig_txt, Bool.and_true, Bool.true_and]; rfl
  · simp only [List.length_append, hl, e1.2, e2.2, dig_len (k := 5) (n := f.dcb.blk.toNat) (by omega) (by omega), dig_len (k := 5) (n := f.dcb.lrecl.toNat) (by omega) (by omega)]
    simp; omega
set_option maxHeartbeats 16000000 in
set_option maxRecDepth 4000 in
theorem pair_specB (kind : Tb) (n count : Nat) (f : FilT) (hf : LabOk f) (hk : txtT kind = true) (hl : kind.length = 3) (hn : n < 9999) (hc : count < 1000000) :
    SpecB Tryz.prog 42 [.str kind, .int .i64 (n : Int), .int .i64 (count : Int), filV f] [] (.own 62 2) [(62, .arr 3 48 ((pairT kind n count f).map tbC))] := by
  have h1 := hf.b0; have h2 := hf.b1; have h3 := hf.r0; have h4 := hf.r1; have h5 := hf.nl
  have k1 := lab1_ok hf hk hl hn hc
  have k2 := lab2_ok hf hk hl
  have hl1 := label_spec _ k1.1 (by rw [k1.2]; omega)
  have hl2 := label_spec _ k2.1 (by have := k2.2; omega)
  have hrep := Repeat_spec 32 (44 - f.name.length) (by omega)
  have hd1 : Spec Tryz.prog 67 [.int .i64 ((n : Int) + 1), .int .i64 4] (.str (digT (n + 1) 4)) := digits_spec (n + 1) 4 (by omega) (by omega)
  have hd2 : Spec Tryz.prog 67 [.int .i64 (count : Int), .int .i64 6] (.str (digT count 6)) := digits_spec count 6 (by omega) (by omega)
  have hd3 : Spec Tryz.prog 67 [.int .i64 (f.dcb.blk.toNat : Int), .int .i64 5] (.str (digT f.dcb.blk.toNat 5)) := digits_spec f.dcb.blk.toNat 5 (by omega) (by omega)
  have hd4 : Spec Tryz.prog 67 [.int .i64 (f.dcb.lrecl.toNat : Int), .int .i64 5] (.str (digT f.dcb.lrecl.toNat 5)) := digits_spec f.dcb.lrecl.toNat 5 (by omega) (by omega)
  rw [Int.toNat_of_nonneg h1] at hd3
  rw [Int.toNat_of_nonneg h3] at hd4
  have he1 := either_spec f.dcb.bl [66] [83]
  have he2 := either_spec f.dcb.asa [65] [32]
  have hsub : (44 : Int) - (f.name.length : Int) = ((44 - f.name.length : Nat) : Int) := by omega
  have g1 : (digT (n + 1) 4).length = 4 := dig_len (by omega) (by omega)
  have g2 : (digT count 6).length = 6 := dig_len (by omega) (by omega)
  have g3 : (digT f.dcb.blk.toNat 5).length = 5 := dig_len (by omega) (by omega)
  have g4 : (digT f.dcb.lrecl.toNat 5).length = 5 := dig_len (by omega) (by omega)
  have g5 : (if f.dcb.bl = true then [66] else [83] : Tb).length = 1 := by split <;> rfl
  have g6 : (if f.dcb.asa = true then [65] else [32] : Tb).length = 1 := by split <;> rfl
  have g7 := (fmt_txt f.dcb.fmt).2
  have g8 : (List.replicate (44 - f.name.length) (32 : UInt8)).length = 44 - f.name.length := by simp
  simp only [pairT, List.map_cons, List.map_nil]
  unfold lab1 padB at hl1 ⊢
  unfold lab2 at hl2 ⊢
  simp only [tbC, labT, u8V] at hl1 hl2 ⊢
  unfold filV filC
  generalize hR : List.replicate (44 - f.name.length) (32 : UInt8) = R at *
  generalize digT (n + 1) 4 = D1 at *
  generalize digT count 6 = D2 at *
  generalize digT f.dcb.blk.toNat 5 = D3 at *
  generalize digT f.dcb.lrecl.toNat 5 = D4 at *
  generalize (if f.dcb.bl = true then [66] else [83] : Tb) = E1 at *
  generalize (if f.dcb.asa = true then [65] else [32] : Tb) = E2 at *
  refine specB_of tt_ok Tryz.func42 rfl (by decide) Tryz.ntmps42 (congrArg Array.toList Tryz.results42) (by simp) (by decide) rfl (by simp only [go_sem, Int.reduceEq, Int.reduceNe, Int.reduceLT, Int.reduceLE, Nat.reduceEqDiff, Nat.reduceAdd, Nat.reduceMul, Nat.reduceLT, Nat.reduceLeDiff, Nat.reduceSub, reduceCtorEq, reduceIte, Int.reduceToNat, beq_self_eq_true, Bool.and_self]) (fun F hF => ?_)
  refine vwp_seq_k fun Na hNa => vreg tt_ok hF rfl ?_; simp only [go_sem, Int.reduceEq, Int.reduceNe, Int.reduceLT, Int.reduceLE, Nat.reduceEqDiff, Nat.reduceAdd, Nat.reduceMul, Nat.reduceLT, Nat.reduceLeDiff, Nat.reduceSub, reduceCtorEq, reduceIte, Int.reduceToNat, beq_self_eq_true, Bool.and_self]
  refine hNa _ (VWp.keep [0,1,2,7] [7] ?_); simp only [go_sem, Int.reduceEq, Int.reduceNe, Int.reduceLT, Int.reduceLE, Nat.reduceEqDiff, Nat.reduceAdd, Nat.reduceMul, Nat.reduceLT, Nat.reduceLeDiff, Nat.reduceSub, reduceCtorEq, reduceIte, Int.reduceToNat, beq_self_eq_true, Bool.and_self]
  refine vwp_seq_k fun Nb hNb => vwp_fmt hF ⟨rfl, rfl, rfl⟩ ⟨rfl, rfl, rfl⟩ ⟨rfl, rfl, rfl⟩ ⟨rfl, rfl, rfl⟩ ⟨rfl, rfl, rfl⟩ ⟨rfl, rfl, rfl⟩ ⟨rfl, rfl, rfl⟩ ⟨rfl, rfl, rfl⟩ ⟨rfl, rfl, rfl⟩ ⟨rfl, rfl, rfl⟩ rfl rfl rfl ?_
  refine hNb _ (VWp.keep [0, 1, 2, 7, 9] [7] ?_)
  simp only [go_sem, Int.reduceEq, Int.reduceNe, Int.reduceLT, Int.reduceLE, Nat.reduceEqDiff, Nat.reduceAdd, Nat.reduceMul, Nat.reduceLT, Nat.reduceLeDiff, Nat.reduceSub, reduceCtorEq, reduceIte, Int.reduceToNat, beq_self_eq_true, Bool.and_self]
  generalize fmtS f.dcb.fmt = M at *
  refine vwp_seq_k fun Nc hNc => vregd tt_ok mixed hF rfl (by kernel_rfl) (by kernel_rfl) ?_; simp only [go_sem, Int.reduceEq, Int.reduceNe, Int.reduceLT, Int.reduceLE, Nat.reduceEqDiff, Nat.reduceAdd, Nat.reduceMul, Nat.reduceLT, Nat.reduceLeDiff, Nat.reduceSub, reduceCtorEq, reduceIte, Int.reduceToNat, beq_self_eq_true, Bool.and_self]
  rw [wrap_i64 (by omega) (by omega), hsub]
  refine .inl ⟨_, hrep, ?_⟩; try simp only [go_sem, Int.reduceEq, Int.reduceNe, Int.reduceLT, Int.reduceLE, Nat.reduceEqDiff, Nat.reduceAdd, Nat.reduceMul, Nat.reduceLT, Nat.reduceLeDiff, Nat.reduceSub, reduceCtorEq, reduceIte, Int.reduceToNat, beq_self_eq_true, Bool.and_self]
  refine ⟨by omega, ?_⟩
  refine hNc _ (VWp.keep [0,1,2,7,9,10] [7] ?_); simp only [go_sem, Int.reduceEq, Int.reduceNe, Int.reduceLT, Int.reduceLE, Nat.reduceEqDiff, Nat.reduceAdd, Nat.reduceMul, Nat.reduceLT, Nat.reduceLeDiff, Nat.reduceSub, reduceCtorEq, reduceIte, Int.reduceToNat, beq_self_eq_true, Bool.and_self]
  refine vwp_seq_k fun Nd hNd => vregd tt_ok mixed hF rfl (by kernel_rfl) (by kernel_rfl) ?_; simp only [go_sem, Int.reduceEq, Int.reduceNe, Int.reduceLT, Int.reduceLE, Nat.reduceEqDiff, Nat.reduceAdd, Nat.reduceMul, Nat.reduceLT, Nat.reduceLeDiff, Nat.reduceSub, reduceCtorEq, reduceIte, Int.reduceToNat, beq_self_eq_true, Bool.and_self]
  rw [wrap_i64 (by omega) (by omega)]
  refine ⟨by first | omega | (simp only [List.length_append, List.length_cons, List.length_nil]; omega), by first | omega | (simp only [List.length_append, List.length_cons, List.length_nil]; omega), ?_⟩
  refine .inl ⟨_, hd1, ?_⟩; try simp only [go_sem, Int.reduceEq, Int.reduceNe, Int.reduceLT, Int.reduceLE, Nat.reduceEqDiff, Nat.reduceAdd, Nat.reduceMul, Nat.reduceLT, Nat.reduceLeDiff, Nat.reduceSub, reduceCtorEq, reduceIte, Int.reduceToNat, beq_self_eq_true, Bool.and_self]
  refine ⟨by first | omega | (simp only [List.length_append, List.length_cons, List.length_nil]; omega), ?_⟩
  refine .inl ⟨_, hd2, ?_⟩; try simp only [go_sem, Int.reduceEq, Int.reduceNe, Int.reduceLT, Int.reduceLE, Nat.reduceEqDiff, Nat.reduceAdd, Nat.reduceMul, Nat.reduceLT, Nat.reduceLeDiff, Nat.reduceSub, reduceCtorEq, reduceIte, Int.reduceToNat, beq_self_eq_true, Bool.and_self]
  refine ⟨by first | omega | (simp only [List.length_append, List.length_cons, List.length_nil]; omega), ?_⟩
  refine .inl ⟨_, hl1, ?_⟩; try simp only [go_sem, Int.reduceEq, Int.reduceNe, Int.reduceLT, Int.reduceLE, Nat.reduceEqDiff, Nat.reduceAdd, Nat.reduceMul, Nat.reduceLT, Nat.reduceLeDiff, Nat.reduceSub, reduceCtorEq, reduceIte, Int.reduceToNat, beq_self_eq_true, Bool.and_self]
  refine ⟨by first | omega | (simp only [List.length_append, List.length_cons, List.length_nil]; omega), by first | omega | (simp only [List.length_append, List.length_cons, List.length_nil]; omega), ?_⟩
  refine .inl ⟨_, he1, ?_⟩; try simp only [go_sem, Int.reduceEq, Int.reduceNe, Int.reduceLT, Int.reduceLE, Nat.reduceEqDiff, Nat.reduceAdd, Nat.reduceMul, Nat.reduceLT, Nat.reduceLeDiff, Nat.reduceSub, reduceCtorEq, reduceIte, Int.reduceToNat, beq_self_eq_true, Bool.and_self]
  refine ⟨by first | omega | (simp only [List.length_append, List.length_cons, List.length_nil]; omega), ?_⟩
  refine .inl ⟨_, he2, ?_⟩; try simp only [go_sem, Int.reduceEq, Int.reduceNe, Int.reduceLT, Int.reduceLE, Nat.reduceEqDiff, Nat.reduceAdd, Nat.reduceMul, Nat.reduceLT, Nat.reduceLeDiff, Nat.reduceSub, reduceCtorEq, reduceIte, Int.reduceToNat, beq_self_eq_true, Bool.and_self]
  refine ⟨by first | omega | (simp only [List.length_append, List.length_cons, List.length_nil]; omega), ?_⟩
  refine .inl ⟨_, hd3, ?_⟩; try simp only [go_sem, Int.reduceEq, Int.reduceNe, Int.reduceLT, Int.reduceLE, Nat.reduceEqDiff, Nat.reduceAdd, Nat.reduceMul, Nat.reduceLT, Nat.reduceLeDiff, Nat.reduceSub, reduceCtorEq, reduceIte, Int.reduceToNat, beq_self_eq_true, Bool.and_self]
  refine ⟨by first | omega | (simp only [List.length_append, List.length_cons, List.length_nil]; omega), ?_⟩
  refine .inl ⟨_, hd4, ?_⟩; try simp only [go_sem, Int.reduceEq, Int.reduceNe, Int.reduceLT, Int.reduceLE, Nat.reduceEqDiff, Nat.reduceAdd, Nat.reduceMul, Nat.reduceLT, Nat.reduceLeDiff, Nat.reduceSub, reduceCtorEq, reduceIte, Int.reduceToNat, beq_self_eq_true, Bool.and_self]
  refine ⟨by first | omega | (simp only [List.length_append, List.length_cons, List.length_nil]; omega), ?_⟩
  refine .inl ⟨_, hl2, ?_⟩; try simp only [go_sem, Int.reduceEq, Int.reduceNe, Int.reduceLT, Int.reduceLE, Nat.reduceEqDiff, Nat.reduceAdd, Nat.reduceMul, Nat.reduceLT, Nat.reduceLeDiff, Nat.reduceSub, reduceCtorEq, reduceIte, Int.reduceToNat, beq_self_eq_true, Bool.and_self]
  refine hNd _ (VWp.keep [8] [62] ?_); simp only [go_sem, Int.reduceEq, Int.reduceNe, Int.reduceLT, Int.reduceLE, Nat.reduceEqDiff, Nat.reduceAdd, Nat.reduceMul, Nat.reduceLT, Nat.reduceLeDiff, Nat.reduceSub, reduceCtorEq, reduceIte, Int.reduceToNat, beq_self_eq_true, Bool.and_self]
  refine vwp_ret ?_
  simp only [go_sem, Int.reduceEq, Int.reduceNe, Int.reduceLT, Int.reduceLE, Nat.reduceEqDiff, Nat.reduceAdd, Nat.reduceMul, Nat.reduceLT, Nat.reduceLeDiff, Nat.reduceSub, reduceCtorEq, reduceIte, Int.reduceToNat, beq_self_eq_true, Bool.and_self]
  exact LeV.refl _
end Go.Proofs.YtjedikaidbobdaaGreatDoor
