import Derived.Outline
import Derived.Test.YtldkmclfhjcicaaGreatDoorWH
/- The reference's Encode; the law's checks. -/
-- SIMP: beq_self_eq_true, Bool.and_self, bytesV
namespace Go.Proofs.YtldkmclfhjcicaaGreatDoor
open Go.RowKit
set_option linter.unusedVariables false
set_option linter.unusedSimpArgs false
theorem byteI_int (n : Int) : ((byteI n).toNat : Int) = n % 256 := by unfold byteI; rw [UInt8.toNat_ofNat']; omega
theorem two_row (n : Int) (h0 : 0 ≤ n) (h1 : n < 65536) : bytesR (twoB n) = [[.int .u8 (n / 256)], [.int .u8 (n % 256)]] := by
  simp only [bytesR, twoB, List.map_cons, List.map_nil, byteI_int]
  rw [show n / 256 % 256 = n / 256 by omega]
set_option maxHeartbeats 4000000 in
theorem two_specB (n : Int) (h0 : 0 ≤ n) (h1 : n < 65536) : SpecB Tryz.prog 12 [.int .i64 n] [] (.own 9 2) [(9, .arr 1 5 [[.int .u8 (n / 256)], [.int .u8 (n % 256)]])] := by
  refine specB_of tt_ok Tryz.func12 rfl (by decide) Tryz.ntmps12 (congrArg Array.toList Tryz.results12) (by simp) (by decide) rfl (by simp only [go_sem, Int.reduceEq, Int.reduceNe, Int.reduceLT, Int.reduceLE, Nat.reduceEqDiff, Nat.reduceAdd, Nat.reduceMul, Nat.reduceLT, Nat.reduceLeDiff, Nat.reduceSub, reduceCtorEq, reduceIte, Int.reduceToNat, beq_self_eq_true, Bool.and_self, bytesV]) (fun F hF => ?_)
  refine vwp_seq_k fun Na hNa => vreg tt_ok hF rfl ?_; simp only [go_sem, Int.reduceEq, Int.reduceNe, Int.reduceLT, Int.reduceLE, Nat.reduceEqDiff, Nat.reduceAdd, Nat.reduceMul, Nat.reduceLT, Nat.reduceLeDiff, Nat.reduceSub, reduceCtorEq, reduceIte, Int.reduceToNat, beq_self_eq_true, Bool.and_self, bytesV]
  refine hNa _ ?_
  refine vwp_seq_k fun Nb hNb => vreg tt_ok hF rfl ?_; simp only [go_sem, Int.reduceEq, Int.reduceNe, Int.reduceLT, Int.reduceLE, Nat.reduceEqDiff, Nat.reduceAdd, Nat.reduceMul, Nat.reduceLT, Nat.reduceLeDiff, Nat.reduceSub, reduceCtorEq, reduceIte, Int.reduceToNat, beq_self_eq_true, Bool.and_self, bytesV]
  simp (disch := omega) only [tdiv_pos, tmod_pos, wrap_i64, wrap_u8, wrap_u64]
  refine hNb _ (vwp_ret ?_)
  simp only [go_sem, Int.reduceEq, Int.reduceNe, Int.reduceLT, Int.reduceLE, Nat.reduceEqDiff, Nat.reduceAdd, Nat.reduceMul, Nat.reduceLT, Nat.reduceLeDiff, Nat.reduceSub, reduceCtorEq, reduceIte, Int.reduceToNat, beq_self_eq_true, Bool.and_self, bytesV]
  rw [show n / 256 % 256 = n / 256 from by omega, show n % 256 % 256 = n % 256 from by omega]
  exact ⟨LeV.refl _, rfl⟩
def accE (c : Cat) (k : Nat) : Bs := twoB c.es.length ++ (c.es.take k).flatMap encEnt
def accG (c : Cat) (k : Nat) : Bs := accE c c.es.length ++ twoB c.gs.length ++ (c.gs.take k).flatMap encGrp
theorem acc_step {α : Type} (f : α → Bs) (l : List α) (k : Nat) (x : α) (h : l[k]? = some x) : (l.take (k + 1)).flatMap f = (l.take k).flatMap f ++ f x := by
  have hlt := (List.getElem?_eq_some_iff.1 h).1
  rw [List.take_succ_eq_append_getElem hlt, (List.getElem?_eq_some_iff.1 h).2, List.flatMap_append]; simp
theorem accE_step (c : Cat) (k : Nat) (x : Ent) (h : c.es[k]? = some x) : accE c (k + 1) = accE c k ++ encEnt x := by unfold accE; rw [acc_step _ _ _ _ h, List.append_assoc]
theorem accG_step (c : Cat) (k : Nat) (x : Grp) (h : c.gs[k]? = some x) : accG c (k + 1) = accG c k ++ encGrp x := by unfold accG; rw [acc_step _ _ _ _ h, List.append_assoc, List.append_assoc, List.append_assoc]
theorem accG_all (c : Cat) : accG c c.gs.length = encC c := by unfold accG accE encC; rw [List.take_length, List.take_length]
theorem enc_rowE (a : Bs) (x : Ent) (h0 : 0 ≤ x.file) (h1 : x.file < 65536) : ((((bytesR a ++ [[V.int .u8 (IntKind.u8.wrap (x.name.length : Int))]]) ++ bytesR x.name) ++ [[V.int .u8 (IntKind.u8.wrap x.unit)], [V.int .u8 (IntKind.u8.wrap (x.serial.length : Int))]]) ++ bytesR x.serial) ++ [[V.int .u8 (x.file / 256)], [V.int .u8 (x.file % 256)]] = bytesR (a ++ encEnt x) := by
  rw [← two_row _ h0 h1]
  unfold encEnt
  simp only [bytesR, List.map_append, List.map_cons, List.map_nil, byteI_int, wrap_u8, List.append_assoc, List.cons_append, List.nil_append]
theorem enc_rowG (a : Bs) (x : Grp) : ((bytesR a ++ [[V.int .u8 (IntKind.u8.wrap (x.base.length : Int))]]) ++ bytesR x.base) ++ [[V.int .u8 (IntKind.u8.wrap x.limit)]] = bytesR (a ++ encGrp x) := by
  unfold encGrp
  simp only [bytesR, List.map_append, List.map_cons, List.map_nil, byteI_int, wrap_u8, List.append_assoc, List.cons_append, List.nil_append]
theorem flatLe {α : Type} (f : α → Bs) (m : Nat) : ∀ l : List α, (∀ x ∈ l, (f x).length ≤ m) → (l.flatMap f).length ≤ l.length * m
  | [], _ => by simp
  | x :: xs, h => by
    have := flatLe f m xs (fun y hy => h y (List.mem_cons_of_mem _ hy))
    have := h x List.mem_cons_self
    rw [List.flatMap_cons, List.length_append, List.length_cons, Nat.succ_mul]; omega
theorem nm44 {s : Bs} (h : nameOk s = true) : s.length ≤ 44 := by unfold nameOk at h; rw [Bool.and_eq_true] at h; exact of_decide_eq_true h.1
theorem ent_b {e : Ent} (h : entOk e = true) : e.name.length ≤ 44 ∧ e.serial.length ≤ 6 ∧ 0 ≤ e.file ∧ e.file < 65536 := by
  unfold entOk at h
  simp only [Bool.and_eq_true, Bool.or_eq_true, decide_eq_true_eq] at h
  obtain ⟨⟨h1, ⟨_, h2⟩, _⟩, h3⟩ := h
  have := nm44 h1
  refine ⟨this, h2, ?_, ?_⟩ <;> rcases h3 with ⟨_, h3⟩ | ⟨⟨_, h3⟩, h4⟩ <;> omega
theorem grp_b {g : Grp} (h : grpOk g = true) : g.base.length ≤ 44 := by
  unfold grpOk at h
  simp only [Bool.and_eq_true, decide_eq_true_eq] at h
  omega
set_option maxHeartbeats 8000000 in
set_option maxRecDepth 4000 in
theorem rEncode_spec (c : Cat) (hv : validC c = true) : Spec Tryz.prog 5 [catV c] (bytesV (encC c)) := by
  obtain ⟨v1, v2, v3, _, v5, _, _⟩ := validC_all hv
  have hE : ∀ x ∈ c.es, x.name.length ≤ 44 ∧ x.serial.length ≤ 6 ∧ 0 ≤ x.file ∧ x.file < 65536 := fun x hx => ent_b (List.all_eq_true.1 v3 x hx)
  have hG : ∀ x ∈ c.gs, x.base.length ≤ 44 := fun x hx => grp_b (List.all_eq_true.1 v5 x hx)
  have hAE : ∀ k, (accE c k).length ≤ 100000 := fun k => by
    have h1 := flatLe encEnt 60 (c.es.take k) (fun x hx => by have := hE x (List.mem_of_mem_take hx); unfold encEnt twoB; simp; omega)
    unfold accE; rw [List.length_append]
    have : (twoB (c.es.length : Int)).length = 2 := rfl
    have : (c.es.take k).length ≤ c.es.length := by simp; omega
    omega
  have hAG : ∀ k, (accG c k).length ≤ 200000 := fun k => by
    have h1 := flatLe encGrp 60 (c.gs.take k) (fun x hx => by have := hG x (List.mem_of_mem_take hx); unfold encGrp; simp; omega)
    have h2 := hAE c.es.length
    unfold accG; rw [List.length_append, List.length_append]
    have : (twoB (c.gs.length : Int)).length = 2 := rfl
    have : (c.gs.take k).length ≤ c.gs.length := by simp; omega
    omega
  refine spec_of tt_ok Tryz.func5 rfl (by decide) Tryz.ntmps5 (congrArg Array.toList Tryz.results5) (by simp) (by decide) rfl rfl (fun F hF => ?_)
  refine vwp_seq_k fun Na hNa => vreg tt_ok hF rfl ?_; simp only [go_sem, Int.reduceEq, Int.reduceNe, Int.reduceLT, Int.reduceLE, Nat.reduceEqDiff, Nat.reduceAdd, Nat.reduceMul, Nat.reduceLT, Nat.reduceLeDiff, Nat.reduceSub, reduceCtorEq, reduceIte, Int.reduceToNat, beq_self_eq_true, Bool.and_self, bytesV]
  refine hNa _ (VWp.keepR [1] [1] tt_ok hF rfl fun Nb hNb => ?_); simp only [go_sem, Int.reduceEq, Int.reduceNe, Int.reduceLT, Int.reduceLE, Nat.reduceEqDiff, Nat.reduceAdd, Nat.reduceMul, Nat.reduceLT, Nat.reduceLeDiff, Nat.reduceSub, reduceCtorEq, reduceIte, Int.reduceToNat, beq_self_eq_true, Bool.and_self, bytesV]
  refine .inr (bxo [(9, 201)] rfl ?_); simp only [go_sem, Int.reduceEq, Int.reduceNe, Int.reduceLT, Int.reduceLE, Nat.reduceEqDiff, Nat.reduceAdd, Nat.reduceMul, Nat.reduceLT, Nat.reduceLeDiff, Nat.reduceSub, reduceCtorEq, reduceIte, Int.reduceToNat, beq_self_eq_true, Bool.and_self, bytesV]; refine ⟨_, _, two_specB (c.es.length : Int) (by omega) (by omega), ?_⟩; try simp only [go_sem, Int.reduceEq, Int.reduceNe, Int.reduceLT, Int.reduceLE, Nat.reduceEqDiff, Nat.reduceAdd, Nat.reduceMul, Nat.reduceLT, Nat.reduceLeDiff, Nat.reduceSub, reduceCtorEq, reduceIte, Int.reduceToNat, beq_self_eq_true, Bool.and_self, bytesV]
  have hA0 : bytesR (accE c 0) = [[.int .u8 ((c.es.length : Int) / 256)], [.int .u8 ((c.es.length : Int) % 256)]] := by
    rw [← two_row _ (by omega) (by omega)]; unfold accE; simp
  refine hNb _ (VWp.keep [1,3] [1,201] ?_); simp only [go_sem, Int.reduceEq, Int.reduceNe, Int.reduceLT, Int.reduceLE, Nat.reduceEqDiff, Nat.reduceAdd, Nat.reduceMul, Nat.reduceLT, Nat.reduceLeDiff, Nat.reduceSub, reduceCtorEq, reduceIte, Int.reduceToNat, beq_self_eq_true, Bool.and_self, bytesV]
  refine vwp_seq_k fun Nc hNc => ?_
  refine vwp_seq_k fun Nd hNd => vreg tt_ok hF rfl ?_; simp only [go_sem, Int.reduceEq, Int.reduceNe, Int.reduceLT, Int.reduceLE, Nat.reduceEqDiff, Nat.reduceAdd, Nat.reduceMul, Nat.reduceLT, Nat.reduceLeDiff, Nat.reduceSub, reduceCtorEq, reduceIte, Int.reduceToNat, beq_self_eq_true, Bool.and_self, bytesV]
  refine hNd _ (VWp.keep [1,3,4] [1,201] ?_); simp only [go_sem, Int.reduceEq, Int.reduceNe, Int.reduceLT, Int.reduceLE, Nat.reduceEqDiff, Nat.reduceAdd, Nat.reduceMul, Nat.reduceLT, Nat.reduceLeDiff, Nat.reduceSub, reduceCtorEq, reduceIte, Int.reduceToNat, beq_self_eq_true, Bool.and_self, bytesV]
  refine vwp_block (vloop (fun k : Nat => [(1, .ptr 1 0), (3, .own 201 (bytesR (accE c k)).length), (4, .int .i64 (k : Int))]) (fun k => [(1, .box 31 [.sl 4 (c.es.map entC), .sl 2 (c.gs.map grpC)]), (201, .arr 1 5 (bytesR (accE c k)))])
    (fun k => k ≤ c.es.length) (fun k => c.es.length - k) 0 (by omega) (by simp only [go_sem, Int.reduceEq, Int.reduceNe, Int.reduceLT, Int.reduceLE, Nat.reduceEqDiff, Nat.reduceAdd, Nat.reduceMul, Nat.reduceLT, Nat.reduceLeDiff, Nat.reduceSub, reduceCtorEq, reduceIte, Int.reduceToNat, beq_self_eq_true, Bool.and_self, bytesV, hA0]) ?_)
  intro k hk
  refine vwp_seq_k fun Ne hNe => ?_
  refine vwp_seq_k fun Nf hNf => vreg tt_ok hF rfl ?_; simp only [go_sem, Int.reduceEq, Int.reduceNe, Int.reduceLT, Int.reduceLE, Nat.reduceEqDiff, Nat.reduceAdd, Nat.reduceMul, Nat.reduceLT, Nat.reduceLeDiff, Nat.reduceSub, reduceCtorEq, reduceIte, Int.reduceToNat, beq_self_eq_true, Bool.and_self, bytesV]
  refine hNf _ (VWp.keep [1,3,4,16] [1,201] ?_); simp only [go_sem, Int.reduceEq, Int.reduceNe, Int.reduceLT, Int.reduceLE, Nat.reduceEqDiff, Nat.reduceAdd, Nat.reduceMul, Nat.reduceLT, Nat.reduceLeDiff, Nat.reduceSub, reduceCtorEq, reduceIte, Int.reduceToNat, beq_self_eq_true, Bool.and_self, bytesV]
  refine vif rfl ⟨fun ht => ?_, fun hf => ?_⟩
  · have hlt : k < c.es.length := by simpa using ht
    obtain ⟨x, hx⟩ : ∃ x, c.es[k]? = some x := ⟨_, List.getElem?_eq_getElem hlt⟩
    have hrow : (c.es.map entC).getD k [] = [.str x.name, .int .i64 x.unit, .str x.serial, .int .i64 x.file] := getD_map c.es entC k x [] hx
    obtain ⟨b1, b2, b3, b4⟩ := hE x (List.mem_of_getElem? hx)
    have b5 := hAE k
    refine vwp_skip (hNe _ ?_)
    refine vwp_seq_k fun Ng hNg => ?_
    refine vwp_block ?_
    refine vwp_seq_k fun Nh hNh => vreg tt_ok hF rfl ?_; simp only [go_sem, Int.reduceEq, Int.reduceNe, Int.reduceLT, Int.reduceLE, Nat.reduceEqDiff, Nat.reduceAdd, Nat.reduceMul, Nat.reduceLT, Nat.reduceLeDiff, Nat.reduceSub, reduceCtorEq, reduceIte, Int.reduceToNat, beq_self_eq_true, Bool.and_self, bytesV]
    simp only [hrow, go_sem, Int.reduceEq, Int.reduceNe, Int.reduceLT, Int.reduceLE, Nat.reduceEqDiff, Nat.reduceAdd, Nat.reduceMul, Nat.reduceLT, Nat.reduceLeDiff, Nat.reduceSub, reduceCtorEq, reduceIte, Int.reduceToNat, beq_self_eq_true, Bool.and_self, bytesV]
    refine ⟨⟨by omega, by omega⟩, ?_⟩
    refine hNh _ (VWp.keepR [1,3,4,5] [1,5,201] tt_ok hF rfl fun Ni hNi => ?_); simp only [go_sem, Int.reduceEq, Int.reduceNe, Int.reduceLT, Int.reduceLE, Nat.reduceEqDiff, Nat.reduceAdd, Nat.reduceMul, Nat.reduceLT, Nat.reduceLeDiff, Nat.reduceSub, reduceCtorEq, reduceIte, Int.reduceToNat, beq_self_eq_true, Bool.and_self, bytesV]
    refine ⟨by rw [bytesR_len]; omega, ?_⟩
    refine hNi _ (VWp.keepR [1,3,4,5] [1,5,201] tt_ok hF rfl fun Nj hNj => ?_); simp only [go_sem, Int.reduceEq, Int.reduceNe, Int.reduceLT, Int.reduceLE, Nat.reduceEqDiff, Nat.reduceAdd, Nat.reduceMul, Nat.reduceLT, Nat.reduceLeDiff, Nat.reduceSub, reduceCtorEq, reduceIte, Int.reduceToNat, beq_self_eq_true, Bool.and_self, bytesV]
    refine ⟨by simp [bytesR_len]; omega, ?_⟩
    refine hNj _ (VWp.keepR [1,3,4,5] [1,5,201] tt_ok hF rfl fun Nk hNk => ?_); simp only [go_sem, Int.reduceEq, Int.reduceNe, Int.reduceLT, Int.reduceLE, Nat.reduceEqDiff, Nat.reduceAdd, Nat.reduceMul, Nat.reduceLT, Nat.reduceLeDiff, Nat.reduceSub, reduceCtorEq, reduceIte, Int.reduceToNat, beq_self_eq_true, Bool.and_self, bytesV]
    refine ⟨by simp [bytesR_len]; omega, ?_⟩
    refine hNk _ (VWp.keepR [1,3,4,5] [1,5,201] tt_ok hF rfl fun Nl hNl => ?_); simp only [go_sem, Int.reduceEq, Int.reduceNe, Int.reduceLT, Int.reduceLE, Nat.reduceEqDiff, Nat.reduceAdd, Nat.reduceMul, Nat.reduceLT, Nat.reduceLeDiff, Nat.reduceSub, reduceCtorEq, reduceIte, Int.reduceToNat, beq_self_eq_true, Bool.and_self, bytesV]
    refine ⟨by simp [bytesR_len]; omega, ?_⟩
    refine hNl _ (VWp.keep [1,3,4,5] [1,5,201] ?_); simp only [go_sem, Int.reduceEq, Int.reduceNe, Int.reduceLT, Int.reduceLE, Nat.reduceEqDiff, Nat.reduceAdd, Nat.reduceMul, Nat.reduceLT, Nat.reduceLeDiff, Nat.reduceSub, reduceCtorEq, reduceIte, Int.reduceToNat, beq_self_eq_true, Bool.and_self, bytesV]
    refine vreg tt_ok hF rfl ?_; simp only [go_sem, Int.reduceEq, Int.reduceNe, Int.reduceLT, Int.reduceLE, Nat.reduceEqDiff, Nat.reduceAdd, Nat.reduceMul, Nat.reduceLT, Nat.reduceLeDiff, Nat.reduceSub, reduceCtorEq, reduceIte, Int.reduceToNat, beq_self_eq_true, Bool.and_self, bytesV]
    refine .inl ⟨_, two_spec x.file b3 b4, ?_⟩; try simp only [go_sem, Int.reduceEq, Int.reduceNe, Int.reduceLT, Int.reduceLE, Nat.reduceEqDiff, Nat.reduceAdd, Nat.reduceMul, Nat.reduceLT, Nat.reduceLeDiff, Nat.reduceSub, reduceCtorEq, reduceIte, Int.reduceToNat, beq_self_eq_true, Bool.and_self, bytesV]
    refine ⟨by simp [bytesR_len]; omega, ?_⟩
    rw [enc_rowE _ _ b3 b4, ← accE_step c k x hx]
    refine hNg _ (VWp.keep [1,3,4] [1,201] ?_); simp only [go_sem, Int.reduceEq, Int.reduceNe, Int.reduceLT, Int.reduceLE, Nat.reduceEqDiff, Nat.reduceAdd, Nat.reduceMul, Nat.reduceLT, Nat.reduceLeDiff, Nat.reduceSub, reduceCtorEq, reduceIte, Int.reduceToNat, beq_self_eq_true, Bool.and_self, bytesV]
    refine vreg tt_ok hF rfl ?_; simp only [go_sem, Int.reduceEq, Int.reduceNe, Int.reduceLT, Int.reduceLE, Nat.reduceEqDiff, Nat.reduceAdd, Nat.reduceMul, Nat.reduceLT, Nat.reduceLeDiff, Nat.reduceSub, reduceCtorEq, reduceIte, Int.reduceToNat, beq_self_eq_true, Bool.and_self, bytesV]
    rw [wrap_i64 (by omega) (by omega)]
    exact ⟨k + 1, by omega, by omega, by simp⟩
  · have hke : k = c.es.length := by have : ¬ k < c.es.length := by simpa using hf
                                     omega
    subst hke
    refine vwp_exit ?_
    simp only [go_sem, Int.reduceEq, Int.reduceNe, Int.reduceLT, Int.reduceLE, Nat.reduceEqDiff, Nat.reduceAdd, Nat.reduceMul, Nat.reduceLT, Nat.reduceLeDiff, Nat.reduceSub, reduceCtorEq, reduceIte, Int.reduceToNat, beq_self_eq_true, Bool.and_self, bytesV]
    refine hNc _ (VWp.keep [1,3] [1,201] ?_); simp only [go_sem, Int.reduceEq, Int.reduceNe, Int.reduceLT, Int.reduceLE, Nat.reduceEqDiff, Nat.reduceAdd, Nat.reduceMul, Nat.reduceLT, Nat.reduceLeDiff, Nat.reduceSub, reduceCtorEq, reduceIte, Int.reduceToNat, beq_self_eq_true, Bool.and_self, bytesV]
    have b5 := hAE c.es.length
    refine vwp_seq_k fun Nm hNm => vreg tt_ok hF rfl ?_; simp only [go_sem, Int.reduceEq, Int.reduceNe, Int.reduceLT, Int.reduceLE, Nat.reduceEqDiff, Nat.reduceAdd, Nat.reduceMul, Nat.reduceLT, Nat.reduceLeDiff, Nat.reduceSub, reduceCtorEq, reduceIte, Int.reduceToNat, beq_self_eq_true, Bool.and_self, bytesV]
    refine .inl ⟨_, two_spec (c.gs.length : Int) (by omega) (by omega), ?_⟩; try simp only [go_sem, Int.reduceEq, Int.reduceNe, Int.reduceLT, Int.reduceLE, Nat.reduceEqDiff, Nat.reduceAdd, Nat.reduceMul, Nat.reduceLT, Nat.reduceLeDiff, Nat.reduceSub, reduceCtorEq, reduceIte, Int.reduceToNat, beq_self_eq_true, Bool.and_self, bytesV]
    refine ⟨by rw [bytesR_len]; omega, ?_⟩
    have hg0 : bytesR (accE c c.es.length) ++ [[.int .u8 ((c.gs.length : Int) / 256)], [.int .u8 ((c.gs.length : Int) % 256)]] = bytesR (accG c 0) := by
      rw [← two_row _ (by omega) (by omega)]; unfold accG; simp [bytesR]
    rw [hg0]
    refine hNm _ (VWp.keep [1,3] [1,201] ?_); simp only [go_sem, Int.reduceEq, Int.reduceNe, Int.reduceLT, Int.reduceLE, Nat.reduceEqDiff, Nat.reduceAdd, Nat.reduceMul, Nat.reduceLT, Nat.reduceLeDiff, Nat.reduceSub, reduceCtorEq, reduceIte, Int.reduceToNat, beq_self_eq_true, Bool.and_self, bytesV]
    refine vwp_seq_k fun Nn hNn => ?_
    refine vwp_seq_k fun No hNo => vreg tt_ok hF rfl ?_; simp only [go_sem, Int.reduceEq, Int.reduceNe, Int.reduceLT, Int.reduceLE, Nat.reduceEqDiff, Nat.reduceAdd, Nat.reduceMul, Nat.reduceLT, Nat.reduceLeDiff, Nat.reduceSub, reduceCtorEq, reduceIte, Int.reduceToNat, beq_self_eq_true, Bool.and_self, bytesV]
    refine hNo _ (VWp.keep [1,3,6] [1,201] ?_); simp only [go_sem, Int.reduceEq, Int.reduceNe, Int.reduceLT, Int.reduceLE, Nat.reduceEqDiff, Nat.reduceAdd, Nat.reduceMul, Nat.reduceLT, Nat.reduceLeDiff, Nat.reduceSub, reduceCtorEq, reduceIte, Int.reduceToNat, beq_self_eq_true, Bool.and_self, bytesV]
    refine vwp_block (vloop (fun k : Nat => [(1, .ptr 1 0), (3, .own 201 (bytesR (accG c k)).length), (6, .int .i64 (k : Int))]) (fun k => [(1, .box 31 [.sl 4 (c.es.map entC), .sl 2 (c.gs.map grpC)]), (201, .arr 1 5 (bytesR (accG c k)))])
      (fun k => k ≤ c.gs.length) (fun k => c.gs.length - k) 0 (by omega) (by simp only [go_sem, Int.reduceEq, Int.reduceNe, Int.reduceLT, Int.reduceLE, Nat.reduceEqDiff, Nat.reduceAdd, Nat.reduceMul, Nat.reduceLT, Nat.reduceLeDiff, Nat.reduceSub, reduceCtorEq, reduceIte, Int.reduceToNat, beq_self_eq_true, Bool.and_self, bytesV]) ?_)
    intro k hk
    refine vwp_seq_k fun Np hNp => ?_
    refine vwp_seq_k fun Nq hNq => vreg tt_ok hF rfl ?_; simp only [go_sem, Int.reduceEq, Int.reduceNe, Int.reduceLT, Int.reduceLE, Nat.reduceEqDiff, Nat.reduceAdd, Nat.reduceMul, Nat.reduceLT, Nat.reduceLeDiff, Nat.reduceSub, reduceCtorEq, reduceIte, Int.reduceToNat, beq_self_eq_true, Bool.and_self, bytesV]
    refine hNq _ (VWp.keep [1,3,6,64] [1,201] ?_); simp only [go_sem, Int.reduceEq, Int.reduceNe, Int.reduceLT, Int.reduceLE, Nat.reduceEqDiff, Nat.reduceAdd, Nat.reduceMul, Nat.reduceLT, Nat.reduceLeDiff, Nat.reduceSub, reduceCtorEq, reduceIte, Int.reduceToNat, beq_self_eq_true, Bool.and_self, bytesV]
    refine vif rfl ⟨fun ht => ?_, fun hf => ?_⟩
    · have hlt : k < c.gs.length := by simpa using ht
      obtain ⟨x, hx⟩ : ∃ x, c.gs[k]? = some x := ⟨_, List.getElem?_eq_getElem hlt⟩
      have hrow : (c.gs.map grpC).getD k [] = [.str x.base, .int .i64 x.limit] := getD_map c.gs grpC k x [] hx
      have b1 := hG x (List.mem_of_getElem? hx)
      have b6 := hAG k
      refine vwp_skip (hNp _ ?_)
      refine vwp_seq_k fun Nr hNr => ?_
      refine vwp_block ?_
      refine vwp_seq_k fun Ns hNs => vreg tt_ok hF rfl ?_; simp only [go_sem, Int.reduceEq, Int.reduceNe, Int.reduceLT, Int.reduceLE, Nat.reduceEqDiff, Nat.reduceAdd, Nat.reduceMul, Nat.reduceLT, Nat.reduceLeDiff, Nat.reduceSub, reduceCtorEq, reduceIte, Int.reduceToNat, beq_self_eq_true, Bool.and_self, bytesV]
      simp only [hrow, go_sem, Int.reduceEq, Int.reduceNe, Int.reduceLT, Int.reduceLE, Nat.reduceEqDiff, Nat.reduceAdd, Nat.reduceMul, Nat.reduceLT, Nat.reduceLeDiff, Nat.reduceSub, reduceCtorEq, reduceIte, Int.reduceToNat, beq_self_eq_true, Bool.and_self, bytesV]
      refine ⟨⟨by omega, by omega⟩, ?_⟩
      refine hNs _ (VWp.keepR [1,3,6,7] [1,7,201] tt_ok hF rfl fun Nt hNt => ?_); simp only [go_sem, Int.reduceEq, Int.reduceNe, Int.reduceLT, Int.reduceLE, Nat.reduceEqDiff, Nat.reduceAdd, Nat.reduceMul, Nat.reduceLT, Nat.reduceLeDiff, Nat.reduceSub, reduceCtorEq, reduceIte, Int.reduceToNat, beq_self_eq_true, Bool.and_self, bytesV]
      refine ⟨by rw [bytesR_len]; omega, ?_⟩
      refine hNt _ (VWp.keepR [1,3,6,7] [1,7,201] tt_ok hF rfl fun Nu hNu => ?_); simp only [go_sem, Int.reduceEq, Int.reduceNe, Int.reduceLT, Int.reduceLE, Nat.reduceEqDiff, Nat.reduceAdd, Nat.reduceMul, Nat.reduceLT, Nat.reduceLeDiff, Nat.reduceSub, reduceCtorEq, reduceIte, Int.reduceToNat, beq_self_eq_true, Bool.and_self, bytesV]
      refine ⟨by simp [bytesR_len]; omega, ?_⟩
      refine hNu _ (VWp.keep [1,3,6,7] [1,7,201] ?_); simp only [go_sem, Int.reduceEq, Int.reduceNe, Int.reduceLT, Int.reduceLE, Nat.reduceEqDiff, Nat.reduceAdd, Nat.reduceMul, Nat.reduceLT, Nat.reduceLeDiff, Nat.reduceSub, reduceCtorEq, reduceIte, Int.reduceToNat, beq_self_eq_true, Bool.and_self, bytesV]
      refine vreg tt_ok hF rfl ?_; simp only [go_sem, Int.reduceEq, Int.reduceNe, Int.reduceLT, Int.reduceLE, Nat.reduceEqDiff, Nat.reduceAdd, Nat.reduceMul, Nat.reduceLT, Nat.reduceLeDiff, Nat.reduceSub, reduceCtorEq, reduceIte, Int.reduceToNat, beq_self_eq_true, Bool.and_self, bytesV]
      refine ⟨by simp [bytesR_len]; omega, ?_⟩
      rw [enc_rowG, ← accG_step c k x hx]
      refine hNr _ (VWp.keep [1,3,6] [1,201] ?_); simp only [go_sem, Int.reduceEq, Int.reduceNe, Int.reduceLT, Int.reduceLE, Nat.reduceEqDiff, Nat.reduceAdd, Nat.reduceMul, Nat.reduceLT, Nat.reduceLeDiff, Nat.reduceSub, reduceCtorEq, reduceIte, Int.reduceToNat, beq_self_eq_true, Bool.and_self, bytesV]
      refine vreg tt_ok hF rfl ?_; simp only [go_sem, Int.reduceEq, Int.reduceNe, Int.reduceLT, Int.reduceLE, Nat.reduceEqDiff, Nat.reduceAdd, Nat.reduceMul, Nat.reduceLT, Nat.reduceLeDiff, Nat.reduceSub, reduceCtorEq, reduceIte, Int.reduceToNat, beq_self_eq_true, Bool.and_self, bytesV]
      rw [wrap_i64 (by omega) (by omega)]
      exact ⟨k + 1, by omega, by omega, by simp⟩
    · have hke : k = c.gs.length := by have : ¬ k < c.gs.length := by simpa using hf
                                       omega
      subst hke
      refine vwp_exit ?_
      simp only [go_sem, Int.reduceEq, Int.reduceNe, Int.reduceLT, Int.reduceLE, Nat.reduceEqDiff, Nat.reduceAdd, Nat.reduceMul, Nat.reduceLT, Nat.reduceLeDiff, Nat.reduceSub, reduceCtorEq, reduceIte, Int.reduceToNat, beq_self_eq_true, Bool.and_self, bytesV]
      rw [accG_all]
      refine hNn _ (VWp.keepR [3] [201] tt_ok hF rfl fun Nv hNv => ?_); simp only [go_sem, Int.reduceEq, Int.reduceNe, Int.reduceLT, Int.reduceLE, Nat.reduceEqDiff, Nat.reduceAdd, Nat.reduceMul, Nat.reduceLT, Nat.reduceLeDiff, Nat.reduceSub, reduceCtorEq, reduceIte, Int.reduceToNat, beq_self_eq_true, Bool.and_self, bytesV]
      refine hNv _ (VWp.keep [2] [201] ?_); simp only [go_sem, Int.reduceEq, Int.reduceNe, Int.reduceLT, Int.reduceLE, Nat.reduceEqDiff, Nat.reduceAdd, Nat.reduceMul, Nat.reduceLT, Nat.reduceLeDiff, Nat.reduceSub, reduceCtorEq, reduceIte, Int.reduceToNat, beq_self_eq_true, Bool.and_self, bytesV]
      refine vwp_ret ?_
      simp only [go_sem, Int.reduceEq, Int.reduceNe, Int.reduceLT, Int.reduceLE, Nat.reduceEqDiff, Nat.reduceAdd, Nat.reduceMul, Nat.reduceLT, Nat.reduceLeDiff, Nat.reduceSub, reduceCtorEq, reduceIte, Int.reduceToNat, beq_self_eq_true, Bool.and_self, bytesV]
      exact LeV.refl _
set_option maxHeartbeats 4000000 in
set_option maxRecDepth 4000 in
theorem checks_spec (c : Cat) (h1 : c.es.length ≤ 1000000) (h2 : c.gs.length ≤ 1000000) : Spec Tryz.prog 6 [catV c] (.bool true) := by
  refine spec_of tt_ok Tryz.func6 rfl (by decide) Tryz.ntmps6 (congrArg Array.toList Tryz.results6) (by simp) (by decide) rfl rfl (fun F hF => ?_)
  refine vwp_seq_k fun Na hNa => vreg tt_ok hF rfl ?_; simp only [go_sem, Int.reduceEq, Int.reduceNe, Int.reduceLT, Int.reduceLE, Nat.reduceEqDiff, Nat.reduceAdd, Nat.reduceMul, Nat.reduceLT, Nat.reduceLeDiff, Nat.reduceSub, reduceCtorEq, reduceIte, Int.reduceToNat, beq_self_eq_true, Bool.and_self, bytesV]
  refine hNa _ (VWp.keep [1] [1] ?_); simp only [go_sem, Int.reduceEq, Int.reduceNe, Int.reduceLT, Int.reduceLE, Nat.reduceEqDiff, Nat.reduceAdd, Nat.reduceMul, Nat.reduceLT, Nat.reduceLeDiff, Nat.reduceSub, reduceCtorEq, reduceIte, Int.reduceToNat, beq_self_eq_true, Bool.and_self, bytesV]
  cases hv : validC c with
  | false =>
    refine vwp_seq_k fun Nb hNb => vreg tt_ok hF rfl ?_; simp only [go_sem, Int.reduceEq, Int.reduceNe, Int.reduceLT, Int.reduceLE, Nat.reduceEqDiff, Nat.reduceAdd, Nat.reduceMul, Nat.reduceLT, Nat.reduceLeDiff, Nat.reduceSub, reduceCtorEq, reduceIte, Int.reduceToNat, beq_self_eq_true, Bool.and_self, bytesV]
    refine .inl ⟨_, Encode_at (c := c) (b := []) (k := 1) (by rw [hv]; rfl), ?_⟩; try simp only [go_sem, Int.reduceEq, Int.reduceNe, Int.reduceLT, Int.reduceLE, Nat.reduceEqDiff, Nat.reduceAdd, Nat.reduceMul, Nat.reduceLT, Nat.reduceLeDiff, Nat.reduceSub, reduceCtorEq, reduceIte, Int.reduceToNat, beq_self_eq_true, Bool.and_self, bytesV]
    refine hNb _ (VWp.keep [1,3,4] [1] ?_); simp only [go_sem, Int.reduceEq, Int.reduceNe, Int.reduceLT, Int.reduceLE, Nat.reduceEqDiff, Nat.reduceAdd, Nat.reduceMul, Nat.reduceLT, Nat.reduceLeDiff, Nat.reduceSub, reduceCtorEq, reduceIte, Int.reduceToNat, beq_self_eq_true, Bool.and_self, bytesV]
    refine vwp_seq_k fun Nc hNc => ?_
    refine vwp_seq_k fun Nd hNd => vreg tt_ok hF rfl ?_; simp only [go_sem, Int.reduceEq, Int.reduceNe, Int.reduceLT, Int.reduceLE, Nat.reduceEqDiff, Nat.reduceAdd, Nat.reduceMul, Nat.reduceLT, Nat.reduceLeDiff, Nat.reduceSub, reduceCtorEq, reduceIte, Int.reduceToNat, beq_self_eq_true, Bool.and_self, bytesV]
    refine .inl ⟨_, Ref_spec c h1 h2, ?_⟩; try simp only [go_sem, Int.reduceEq, Int.reduceNe, Int.reduceLT, Int.reduceLE, Nat.reduceEqDiff, Nat.reduceAdd, Nat.reduceMul, Nat.reduceLT, Nat.reduceLeDiff, Nat.reduceSub, reduceCtorEq, reduceIte, Int.reduceToNat, beq_self_eq_true, Bool.and_self, bytesV]
    refine .inl ⟨_, hv ▸ Valid_spec c h1 h2, ?_⟩
    simp only [go_sem, Int.reduceEq, Int.reduceNe, Int.reduceLT, Int.reduceLE, Nat.reduceEqDiff, Nat.reduceAdd, Nat.reduceMul, Nat.reduceLT, Nat.reduceLeDiff, Nat.reduceSub, reduceCtorEq, reduceIte, Int.reduceToNat, beq_self_eq_true, Bool.and_self, bytesV]
    refine hNd _ (VWp.keep [1,3,4,13] [1] ?_); simp only [go_sem, Int.reduceEq, Int.reduceNe, Int.reduceLT, Int.reduceLE, Nat.reduceEqDiff, Nat.reduceAdd, Nat.reduceMul, Nat.reduceLT, Nat.reduceLeDiff, Nat.reduceSub, reduceCtorEq, reduceIte, Int.reduceToNat, beq_self_eq_true, Bool.and_self, bytesV]
    refine vif rfl ⟨fun _ => ?_, fun hf => (by cases hf)⟩
    refine vwp_seq_k fun Ne hNe => vreg tt_ok hF rfl ?_; simp only [go_sem, Int.reduceEq, Int.reduceNe, Int.reduceLT, Int.reduceLE, Nat.reduceEqDiff, Nat.reduceAdd, Nat.reduceMul, Nat.reduceLT, Nat.reduceLeDiff, Nat.reduceSub, reduceCtorEq, reduceIte, Int.reduceToNat, beq_self_eq_true, Bool.and_self, bytesV]
    refine .inl ⟨_, Check_at (c := c) (k := 1) (by rw [hv]; rfl), ?_⟩; try simp only [go_sem, Int.reduceEq, Int.reduceNe, Int.reduceLT, Int.reduceLE, Nat.reduceEqDiff, Nat.reduceAdd, Nat.reduceMul, Nat.reduceLT, Nat.reduceLeDiff, Nat.reduceSub, reduceCtorEq, reduceIte, Int.reduceToNat, beq_self_eq_true, Bool.and_self, bytesV]
    have hb0 : decide (((bytesR ([] : Bs)).length : Int) = 0) = true := rfl
    simp only [go_sem, Int.reduceEq, Int.reduceNe, Int.reduceLT, Int.reduceLE, Nat.reduceEqDiff, Nat.reduceAdd, Nat.reduceMul, Nat.reduceLT, Nat.reduceLeDiff, Nat.reduceSub, reduceCtorEq, reduceIte, Int.reduceToNat, beq_self_eq_true, Bool.and_self, bytesV, hb0]
    refine hNe _ (VWp.keep [2] [] ?_); simp only [go_sem, Int.reduceEq, Int.reduceNe, Int.reduceLT, Int.reduceLE, Nat.reduceEqDiff, Nat.reduceAdd, Nat.reduceMul, Nat.reduceLT, Nat.reduceLeDiff, Nat.reduceSub, reduceCtorEq, reduceIte, Int.reduceToNat, beq_self_eq_true, Bool.and_self, bytesV]
    refine vwp_ret ?_
    simp only [go_sem, Int.reduceEq, Int.reduceNe, Int.reduceLT, Int.reduceLE, Nat.reduceEqDiff, Nat.reduceAdd, Nat.reduceMul, Nat.reduceLT, Nat.reduceLeDiff, Nat.reduceSub, reduceCtorEq, reduceIte, Int.reduceToNat, beq_self_eq_true, Bool.and_self, bytesV]
    exact LeV.refl _
  | true =>
    refine vwp_seq_k fun Nb hNb => vreg tt_ok hF rfl ?_; simp only [go_sem, Int.reduceEq, Int.reduceNe, Int.reduceLT, Int.reduceLE, Nat.reduceEqDiff, Nat.reduceAdd, Nat.reduceMul, Nat.reduceLT, Nat.reduceLeDiff, Nat.reduceSub, reduceCtorEq, reduceIte, Int.reduceToNat, beq_self_eq_true, Bool.and_self, bytesV]
    refine .inl ⟨_, Encode_at (c := c) (b := encC c) (k := 0) (by rw [hv]; rfl), ?_⟩; try simp only [go_sem, Int.reduceEq, Int.reduceNe, Int.reduceLT, Int.reduceLE, Nat.reduceEqDiff, Nat.reduceAdd, Nat.reduceMul, Nat.reduceLT, Nat.reduceLeDiff, Nat.reduceSub, reduceCtorEq, reduceIte, Int.reduceToNat, beq_self_eq_true, Bool.and_self, bytesV]
    refine hNb _ (VWp.keep [1,3,4] [1] ?_); simp only [go_sem, Int.reduceEq, Int.reduceNe, Int.reduceLT, Int.reduceLE, Nat.reduceEqDiff, Nat.reduceAdd, Nat.reduceMul, Nat.reduceLT, Nat.reduceLeDiff, Nat.reduceSub, reduceCtorEq, reduceIte, Int.reduceToNat, beq_self_eq_true, Bool.and_self, bytesV]
    refine vwp_seq_k fun Nc hNc => ?_
    refine vwp_seq_k fun Nd hNd => vreg tt_ok hF rfl ?_; simp only [go_sem, Int.reduceEq, Int.reduceNe, Int.reduceLT, Int.reduceLE, Nat.reduceEqDiff, Nat.reduceAdd, Nat.reduceMul, Nat.reduceLT, Nat.reduceLeDiff, Nat.reduceSub, reduceCtorEq, reduceIte, Int.reduceToNat, beq_self_eq_true, Bool.and_self, bytesV]
    refine .inl ⟨_, Ref_spec c h1 h2, ?_⟩; try simp only [go_sem, Int.reduceEq, Int.reduceNe, Int.reduceLT, Int.reduceLE, Nat.reduceEqDiff, Nat.reduceAdd, Nat.reduceMul, Nat.reduceLT, Nat.reduceLeDiff, Nat.reduceSub, reduceCtorEq, reduceIte, Int.reduceToNat, beq_self_eq_true, Bool.and_self, bytesV]
    refine .inl ⟨_, hv ▸ Valid_spec c h1 h2, ?_⟩
    simp only [go_sem, Int.reduceEq, Int.reduceNe, Int.reduceLT, Int.reduceLE, Nat.reduceEqDiff, Nat.reduceAdd, Nat.reduceMul, Nat.reduceLT, Nat.reduceLeDiff, Nat.reduceSub, reduceCtorEq, reduceIte, Int.reduceToNat, beq_self_eq_true, Bool.and_self, bytesV]
    refine hNd _ (VWp.keep [1,3,4,13] [1] ?_); simp only [go_sem, Int.reduceEq, Int.reduceNe, Int.reduceLT, Int.reduceLE, Nat.reduceEqDiff, Nat.reduceAdd, Nat.reduceMul, Nat.reduceLT, Nat.reduceLeDiff, Nat.reduceSub, reduceCtorEq, reduceIte, Int.reduceToNat, beq_self_eq_true, Bool.and_self, bytesV]
    refine vif rfl ⟨fun hf => (by cases hf), fun _ => ?_⟩
    refine vwp_skip (hNc _ ?_)
    refine vwp_seq_k fun Nf hNf => vregd tt_ok mixed hF rfl (by kernel_rfl) (by kernel_rfl) ?_; simp only [go_sem, Int.reduceEq, Int.reduceNe, Int.reduceLT, Int.reduceLE, Nat.reduceEqDiff, Nat.reduceAdd, Nat.reduceMul, Nat.reduceLT, Nat.reduceLeDiff, Nat.reduceSub, reduceCtorEq, reduceIte, Int.reduceToNat, beq_self_eq_true, Bool.and_self, bytesV]
    refine .inl ⟨_, Check_at (c := c) (k := 0) (by rw [hv]; rfl), ?_⟩; try simp only [go_sem, Int.reduceEq, Int.reduceNe, Int.reduceLT, Int.reduceLE, Nat.reduceEqDiff, Nat.reduceAdd, Nat.reduceMul, Nat.reduceLT, Nat.reduceLeDiff, Nat.reduceSub, reduceCtorEq, reduceIte, Int.reduceToNat, beq_self_eq_true, Bool.and_self, bytesV]
    refine .inl ⟨_, Ref_spec c h1 h2, ?_⟩; try simp only [go_sem, Int.reduceEq, Int.reduceNe, Int.reduceLT, Int.reduceLE, Nat.reduceEqDiff, Nat.reduceAdd, Nat.reduceMul, Nat.reduceLT, Nat.reduceLeDiff, Nat.reduceSub, reduceCtorEq, reduceIte, Int.reduceToNat, beq_self_eq_true, Bool.and_self, bytesV]
    refine .inl ⟨_, rEncode_spec c hv, ?_⟩; try simp only [go_sem, Int.reduceEq, Int.reduceNe, Int.reduceLT, Int.reduceLE, Nat.reduceEqDiff, Nat.reduceAdd, Nat.reduceMul, Nat.reduceLT, Nat.reduceLeDiff, Nat.reduceSub, reduceCtorEq, reduceIte, Int.reduceToNat, beq_self_eq_true, Bool.and_self, bytesV]
    refine hNf _ (VWp.keep [2] [] ?_); simp only [go_sem, Int.reduceEq, Int.reduceNe, Int.reduceLT, Int.reduceLE, Nat.reduceEqDiff, Nat.reduceAdd, Nat.reduceMul, Nat.reduceLT, Nat.reduceLeDiff, Nat.reduceSub, reduceCtorEq, reduceIte, Int.reduceToNat, beq_self_eq_true, Bool.and_self, bytesV]
    refine vwp_ret ?_
    simp only [go_sem, Int.reduceEq, Int.reduceNe, Int.reduceLT, Int.reduceLE, Nat.reduceEqDiff, Nat.reduceAdd, Nat.reduceMul, Nat.reduceLT, Nat.reduceLeDiff, Nat.reduceSub, reduceCtorEq, reduceIte, Int.reduceToNat, beq_self_eq_true, Bool.and_self, bytesV]
    exact LeV.refl _
end Go.Proofs.YtldkmclfhjcicaaGreatDoor
