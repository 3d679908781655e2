import Derived.Outline
import Derived.Test.YtedbbinlcdgkoaaGreatDoorZP
import Derived.Test.YtedbbinlcdgkoaaGreatDoorZS

/- Layer 19: the law's spoil. -/
-- FUSE
-- LESS
-- SIMP: uni_cvt, par_cvt, uni_refs, par_refs
namespace Go.Proofs.YtedbbinlcdgkoaaGreatDoor
open Go.RowKit Go.Lib
set_option linter.unusedVariables false
set_option linter.unusedSimpArgs false
def spP (q : Nat) (st : Int) (ps : List ParT) (p : Nat) (by0 : Int) : Int × List ParT :=
  if q = 0 then (IntKind.i64.wrap (st + by0), ps)
  else if q = 1 then (st, ps.set p ⟨IntKind.i64.wrap ((ps.getD p ⟨0, []⟩).size + by0), (ps.getD p ⟨0, []⟩).cls⟩)
  else if q = 2 then (st, ps.set p ⟨(ps.getD p ⟨0, []⟩).size, (ps.getD p ⟨0, []⟩).cls ++ [UInt8.ofNat (IntKind.u8.wrap by0).toNat]⟩)
  else if q = 3 then (st, ps.set p ⟨(ps.getD p ⟨0, []⟩).size, []⟩)
  else (st, ps)
theorem spP_len (q : Nat) (st : Int) (ps : List ParT) (p : Nat) (by0 : Int) : (spP q st ps p by0).2.length = ps.length := by
  unfold spP
  split
  · rfl
  · split
    · simp
    · split
      · simp
      · split <;> simp
def u0 : UniT := ⟨0, 0, [], 0, 0⟩
def spU (q : Nat) (us : List UniT) (p : Nat) (by0 : Int) : List UniT :=
  if q = 5 then us.set p ⟨IntKind.i64.wrap ((us.getD p u0).addr + by0), (us.getD p u0).kind, (us.getD p u0).ser, (us.getD p u0).cyl, (us.getD p u0).head⟩
  else if q = 6 then us.set p ⟨(us.getD p u0).addr, IntKind.i64.wrap ((us.getD p u0).kind + by0), (us.getD p u0).ser, (us.getD p u0).cyl, (us.getD p u0).head⟩
  else if q = 7 then us.set p ⟨(us.getD p u0).addr, (us.getD p u0).kind, (us.getD p u0).ser ++ [UInt8.ofNat (IntKind.u8.wrap by0).toNat], (us.getD p u0).cyl, (us.getD p u0).head⟩
  else if q = 8 then us.set p ⟨(us.getD p u0).addr, (us.getD p u0).kind, (us.getD p u0).ser, IntKind.i64.wrap ((us.getD p u0).cyl + by0), (us.getD p u0).head⟩
  else if q = 9 then us.set p ⟨(us.getD p u0).addr, (us.getD p u0).kind, (us.getD p u0).ser, (us.getD p u0).cyl, IntKind.i64.wrap ((us.getD p u0).head + by0)⟩
  else if q = 10 then us.set p ⟨(us.getD p u0).addr, (us.getD p u0).kind, (us.getD 0 u0).ser, (us.getD p u0).cyl, (us.getD p u0).head⟩
  else if q = 11 then us.set p (us.getD 0 u0)
  else us
theorem spU_len (q : Nat) (us : List UniT) (p : Nat) (by0 : Int) : (spU q us p by0).length = us.length := by
  unfold spU
  repeat' split
  all_goals simp
set_option maxHeartbeats 8000000 in
set_option maxRecDepth 4000 in
theorem spoil_hs (c : CfgT) (n : Nat) (hn : n < 256) (by0 : Int) (hcl : ∀ p ∈ c.ps, p.cls.length ≤ 1000000) (hsr : ∀ u ∈ c.us, u.ser.length ≤ 1000000) (h1 : c.us.length ≤ 16) (h2 : c.ps.length ≤ 4) (hu : c.us ≠ []) (hp : c.ps ≠ []) (hq4 : n % 12 ≠ 4) : SpecB Tryz.prog 12 [.agg (cfgC c), .int .u8 n, .int .i64 by0] [] (.agg [.hs 500101 c.us.length, .int .i64 (spP (n % 12) c.store c.ps (n / 16 % c.ps.length) by0).1, .hs 500102 c.ps.length])
    [(500101, .box 58 ((spU (n % 12) c.us (n / 16 % c.us.length) by0).map uniC).flatten), (500102, .box 65 ((spP (n % 12) c.store c.ps (n / 16 % c.ps.length) by0).2.map parC).flatten)] := by
  have href := Ref_spec c (by omega) (by omega)
  have hpg := Prog_hs c (by omega) (by omega) hu hp
  have fu := (uni_flat c.us).2
  have fp := (par_flat c.ps).2
  have hpl : 0 < c.ps.length := List.length_pos_iff.2 hp
  have hm := Nat.mod_lt (n / 16) hpl
  have hm12 := Nat.mod_lt n (show 0 < 12 by decide)
  have e1 : (n : Int).tdiv 16 = ((n / 16 : Nat) : Int) := by rw [tdiv_pos (by omega)]; omega
  have e2 : ((n / 16 : Nat) : Int).tmod (c.ps.length : Int) = ((n / 16 % c.ps.length : Nat) : Int) := by rw [tmod_pos (by omega)]; rfl
  have e5 : (n : Int).tmod 12 = ((n % 12 : Nat) : Int) := by rw [tmod_pos (by omega)]; omega
  have e0 : IntKind.i64.wrap ((n / 16 : Nat) : Int) = ((n / 16 : Nat) : Int) := wrap_i64 (by omega) (by omega)
  have e6 : IntKind.u8.wrap ((n / 16 : Nat) : Int) = ((n / 16 : Nat) : Int) := by rw [wrap_u8]; omega
  have e12 : IntKind.u8.wrap ((n % 12 : Nat) : Int) = ((n % 12 : Nat) : Int) := by rw [wrap_u8]; omega
  obtain ⟨p, hpp⟩ : ∃ p, n / 16 % c.ps.length = p := ⟨_, rfl⟩
  obtain ⟨q, hqq⟩ : ∃ q, n % 12 = q := ⟨_, rfl⟩
  rw [hpp] at e2 hm
  rw [hqq] at e5 hm12 e12 hq4
  rw [hpp, hqq]
  have g0 := par_size hm
  have g1 := par_cls hm
  have gl := par_len c.ps
  have s0 := fun z => par_set0 hm z
  have s1 := fun z => par_set1 hm z
  have gc := hcl _ (List.getElem_mem hm)
  have gp : c.ps.getD p ⟨0, []⟩ = c.ps[p] := by simp [List.getD_eq_getElem?_getD, hm]
  unfold cfgC at href hpg ⊢
  refine specB_of tt_ok Tryz.func12 rfl (by decide) Tryz.ntmps12 (congrArg Array.toList Tryz.results12) (by simp) (by decide) rfl (by simp only [go_sem, Int.reduceEq, Int.reduceLT, Nat.reduceEqDiff, Nat.reduceAdd, Nat.reduceMul, Nat.reduceLT, Nat.reduceLeDiff, Int.reduceToNat, uni_cvt, par_cvt, uni_refs, par_refs]) (fun F hF => ?_)
  refine vwp_seq_k fun Na hNa => vreg tt_ok hF rfl ?_; simp only [go_sem, Int.reduceEq, Int.reduceLT, Nat.reduceEqDiff, Nat.reduceAdd, Nat.reduceMul, Nat.reduceLT, Nat.reduceLeDiff, Int.reduceToNat, uni_cvt, par_cvt, uni_refs, par_refs]
  refine hNa _ (VWp.keepR [1,2,3,6] [3,6] tt_ok hF rfl fun Nb hNb => ?_); simp only [go_sem, Int.reduceEq, Int.reduceLT, Nat.reduceEqDiff, Nat.reduceAdd, Nat.reduceMul, Nat.reduceLT, Nat.reduceLeDiff, Int.reduceToNat, uni_cvt, par_cvt, uni_refs, par_refs]
  refine .inl ⟨_, href, ?_⟩; try simp only [go_sem, Int.reduceEq, Int.reduceLT, Nat.reduceEqDiff, Nat.reduceAdd, Nat.reduceMul, Nat.reduceLT, Nat.reduceLeDiff, Int.reduceToNat, uni_cvt, par_cvt, uni_refs, par_refs]
  refine .inr (bxo [(7, 500101), (500012, 500102)] rfl ?_); simp only [go_sem, Int.reduceEq, Int.reduceLT, Nat.reduceEqDiff, Nat.reduceAdd, Nat.reduceMul, Nat.reduceLT, Nat.reduceLeDiff, Int.reduceToNat, uni_cvt, par_cvt, uni_refs, par_refs]; refine ⟨_, _, hpg, ?_⟩; try simp only [go_sem, Int.reduceEq, Int.reduceLT, Nat.reduceEqDiff, Nat.reduceAdd, Nat.reduceMul, Nat.reduceLT, Nat.reduceLeDiff, Int.reduceToNat, uni_cvt, par_cvt, uni_refs, par_refs]
  refine hNb _ (VWp.keepR [1,2,6,7] [6,7,500101,500102] tt_ok hF rfl fun Nc hNc => ?_); simp only [e0, e1, e2, e6, go_sem, Int.reduceEq, Int.reduceLT, Nat.reduceEqDiff, Nat.reduceAdd, Nat.reduceMul, Nat.reduceLT, Nat.reduceLeDiff, Int.reduceToNat, uni_cvt, par_cvt, uni_refs, par_refs]
  refine ⟨by omega, ?_⟩
  refine hNc _ (VWp.keep [1,2,6,7,8] [6,7,500101,500102] ?_); simp only [go_sem, Int.reduceEq, Int.reduceLT, Nat.reduceEqDiff, Nat.reduceAdd, Nat.reduceMul, Nat.reduceLT, Nat.reduceLeDiff, Int.reduceToNat, uni_cvt, par_cvt, uni_refs, par_refs]
  refine vmeet (fun z : Int × List ParT => [(1, .int .u8 n), (2, .int .i64 by0), (6, .ptr 6 0), (7, .ptr 7 0)])
    (fun z => [(6, .box 25 [.nil, .int .i64 0, .nil]), (7, .box 25 [.hs 500101 c.us.length, .int .i64 z.1, .hs 500102 c.ps.length]), (500101, .box 58 (c.us.map uniC).flatten), (500102, .box 65 (z.2.map parC).flatten)])
    (fun z => z = spP q c.store c.ps p by0) ?_ ?_
  · refine vwp_seq_k fun Ne hNe => vreg tt_ok hF rfl ?_; simp only [e5, e12, go_sem, Int.reduceEq, Int.reduceLT, Nat.reduceEqDiff, Nat.reduceAdd, Nat.reduceMul, Nat.reduceLT, Nat.reduceLeDiff, Int.reduceToNat, uni_cvt, par_cvt, uni_refs, par_refs]
    refine hNe _ (VWp.keep [1,2,6,7,8,21] [6,7,500101,500102] ?_); simp only [go_sem, Int.reduceEq, Int.reduceLT, Nat.reduceEqDiff, Nat.reduceAdd, Nat.reduceMul, Nat.reduceLT, Nat.reduceLeDiff, Int.reduceToNat, uni_cvt, par_cvt, uni_refs, par_refs]
    refine vwp_block ?_
    refine vwp_seq_k fun Nf hNf => vreg tt_ok hF rfl ?_; simp only [go_sem, Int.reduceEq, Int.reduceLT, Nat.reduceEqDiff, Nat.reduceAdd, Nat.reduceMul, Nat.reduceLT, Nat.reduceLeDiff, Int.reduceToNat, uni_cvt, par_cvt, uni_refs, par_refs]
    refine hNf _ (VWp.keep [1,2,6,7,8,21,22] [6,7,500101,500102] ?_); simp only [go_sem, Int.reduceEq, Int.reduceLT, Nat.reduceEqDiff, Nat.reduceAdd, Nat.reduceMul, Nat.reduceLT, Nat.reduceLeDiff, Int.reduceToNat, uni_cvt, par_cvt, uni_refs, par_refs]
    refine vif rfl ⟨fun ht => ?_, fun hf => ?_⟩
    · have h0 : q = 0 := by have := of_decide_eq_true ht; omega
      refine vreg tt_ok hF rfl ?_; simp only [go_sem, Int.reduceEq, Int.reduceLT, Nat.reduceEqDiff, Nat.reduceAdd, Nat.reduceMul, Nat.reduceLT, Nat.reduceLeDiff, Int.reduceToNat, uni_cvt, par_cvt, uni_refs, par_refs]
      exact ⟨_, rfl, by simp [spP, h0]⟩
    have h0 : q ≠ 0 := by have := of_decide_eq_false hf; omega
    refine vwp_seq_k fun Ng hNg => vreg tt_ok hF rfl ?_; simp only [go_sem, Int.reduceEq, Int.reduceLT, Nat.reduceEqDiff, Nat.reduceAdd, Nat.reduceMul, Nat.reduceLT, Nat.reduceLeDiff, Int.reduceToNat, uni_cvt, par_cvt, uni_refs, par_refs]
    refine hNg _ (VWp.keep [1,2,6,7,8,21,29] [6,7,500101,500102] ?_); simp only [go_sem, Int.reduceEq, Int.reduceLT, Nat.reduceEqDiff, Nat.reduceAdd, Nat.reduceMul, Nat.reduceLT, Nat.reduceLeDiff, Int.reduceToNat, uni_cvt, par_cvt, uni_refs, par_refs]
    refine vif rfl ⟨fun ht => ?_, fun hf => ?_⟩
    · have h1 : q = 1 := by have := of_decide_eq_true ht; omega
      refine vregdC .all tt_ok mixed hF rfl (by kernel_rfl) (by kernel_rfl) ?_
      simp only [g0, g1, gl, s0, s1, go_sem, Int.reduceEq, Int.reduceLT, Nat.reduceEqDiff, Nat.reduceAdd, Nat.reduceMul, Nat.reduceLT, Nat.reduceLeDiff, Int.reduceToNat, uni_cvt, par_cvt, uni_refs, par_refs]
      refine ⟨⟨by omega, by omega⟩, by omega, ⟨by omega, by omega⟩, by omega, _, rfl, ?_⟩
      simp [spP, h1, hm]
    have h1 : q ≠ 1 := by have := of_decide_eq_false hf; omega
    refine vwp_seq_k fun Nh hNh => vreg tt_ok hF rfl ?_; simp only [go_sem, Int.reduceEq, Int.reduceLT, Nat.reduceEqDiff, Nat.reduceAdd, Nat.reduceMul, Nat.reduceLT, Nat.reduceLeDiff, Int.reduceToNat, uni_cvt, par_cvt, uni_refs, par_refs]
    refine hNh _ (VWp.keep [1,2,6,7,8,21,44] [6,7,500101,500102] ?_); simp only [go_sem, Int.reduceEq, Int.reduceLT, Nat.reduceEqDiff, Nat.reduceAdd, Nat.reduceMul, Nat.reduceLT, Nat.reduceLeDiff, Int.reduceToNat, uni_cvt, par_cvt, uni_refs, par_refs]
    refine vif rfl ⟨fun ht => ?_, fun hf => ?_⟩
    · have h2 : q = 2 := by have := of_decide_eq_true ht; omega
      refine vregdC .all tt_ok mixed hF rfl (by kernel_rfl) (by kernel_rfl) ?_
      simp only [g0, g1, gl, s0, s1, go_sem, Int.reduceEq, Int.reduceLT, Nat.reduceEqDiff, Nat.reduceAdd, Nat.reduceMul, Nat.reduceLT, Nat.reduceLeDiff, Int.reduceToNat, uni_cvt, par_cvt, uni_refs, par_refs]
      refine ⟨⟨by omega, by omega⟩, by omega, by omega, ⟨by omega, by omega⟩, by omega, _, rfl, ?_⟩
      simp [spP, h2, hm]
    have h2 : q ≠ 2 := by have := of_decide_eq_false hf; omega
    refine vwp_seq_k fun Ni hNi => vreg tt_ok hF rfl ?_; simp only [go_sem, Int.reduceEq, Int.reduceLT, Nat.reduceEqDiff, Nat.reduceAdd, Nat.reduceMul, Nat.reduceLT, Nat.reduceLeDiff, Int.reduceToNat, uni_cvt, par_cvt, uni_refs, par_refs]
    refine hNi _ (VWp.keep [1,2,6,7,8,21,62] [6,7,500101,500102] ?_); simp only [go_sem, Int.reduceEq, Int.reduceLT, Nat.reduceEqDiff, Nat.reduceAdd, Nat.reduceMul, Nat.reduceLT, Nat.reduceLeDiff, Int.reduceToNat, uni_cvt, par_cvt, uni_refs, par_refs]
    refine vif rfl ⟨fun ht => ?_, fun hf => ?_⟩
    · have h3 : q = 3 := by have := of_decide_eq_true ht; omega
      refine vreg tt_ok hF rfl ?_
      simp only [g0, g1, gl, s0, s1, go_sem, Int.reduceEq, Int.reduceLT, Nat.reduceEqDiff, Nat.reduceAdd, Nat.reduceMul, Nat.reduceLT, Nat.reduceLeDiff, Int.reduceToNat, uni_cvt, par_cvt, uni_refs, par_refs]
      refine ⟨⟨by omega, by omega⟩, by omega, _, rfl, ?_⟩
      simp [spP, h3, hm]
    have h3 : q ≠ 3 := by have := of_decide_eq_false hf; omega
    refine vwp_seq_k fun Nj hNj => vreg tt_ok hF rfl ?_; simp only [go_sem, Int.reduceEq, Int.reduceLT, Nat.reduceEqDiff, Nat.reduceAdd, Nat.reduceMul, Nat.reduceLT, Nat.reduceLeDiff, Int.reduceToNat, uni_cvt, par_cvt, uni_refs, par_refs]
    refine hNj _ (VWp.keep [1,2,6,7,8,21,69] [6,7,500101,500102] ?_); simp only [go_sem, Int.reduceEq, Int.reduceLT, Nat.reduceEqDiff, Nat.reduceAdd, Nat.reduceMul, Nat.reduceLT, Nat.reduceLeDiff, Int.reduceToNat, uni_cvt, par_cvt, uni_refs, par_refs]
    refine vif rfl ⟨fun ht => ?_, fun hf => ?_⟩
    · exact absurd (by have := of_decide_eq_true ht; omega) hq4
    refine vwp_skip ?_
    simp only [go_sem, Int.reduceEq, Int.reduceLT, Nat.reduceEqDiff, Nat.reduceAdd, Nat.reduceMul, Nat.reduceLT, Nat.reduceLeDiff, Int.reduceToNat, uni_cvt, par_cvt, uni_refs, par_refs]
    exact ⟨_, rfl, by simp [spP, h0, h1, h2, h3]⟩
  rintro z hz
  have hzl : z.2.length = c.ps.length := by rw [hz]; exact spP_len _ _ _ _ _
  rw [← hz]
  have hul : 0 < c.us.length := List.length_pos_iff.2 hu
  have hmu := Nat.mod_lt (n / 16) hul
  have e2u : ((n / 16 : Nat) : Int).tmod (c.us.length : Int) = ((n / 16 % c.us.length : Nat) : Int) := by rw [tmod_pos (by omega)]; rfl
  obtain ⟨u, huu⟩ : ∃ u, n / 16 % c.us.length = u := ⟨_, rfl⟩
  rw [huu] at e2u hmu
  rw [huu]
  have gu : c.us.getD u u0 = c.us[u] := by simp [List.getD_eq_getElem?_getD, hmu]
  have gz : c.us.getD 0 u0 = c.us[0] := by simp [List.getD_eq_getElem?_getD, hul]
  have gs := hsr _ (List.getElem_mem hmu)
  have ul := uni_len c.us
  have k0 : (c.us.map uniC).flatten.getD (u * 5) .any = .int .i64 c.us[u].addr := uni_get hmu 0 (by omega)
  have k1 : (c.us.map uniC).flatten.getD (u * 5 + 1) .any = .int .i64 c.us[u].kind := uni_get hmu 1 (by omega)
  have k2 : (c.us.map uniC).flatten.getD (u * 5 + 2) .any = .str c.us[u].ser := uni_get hmu 2 (by omega)
  have k3 : (c.us.map uniC).flatten.getD (u * 5 + 3) .any = .int .i64 c.us[u].cyl := uni_get hmu 3 (by omega)
  have k4 : (c.us.map uniC).flatten.getD (u * 5 + 4) .any = .int .i64 c.us[u].head := uni_get hmu 4 (by omega)
  have k5 : (c.us.map uniC).flatten.getD 2 .any = .str c.us[0].ser := uni_get hul 2 (by omega)
  have k6 := uni_first hul
  have v0 := fun z => uni_set hmu 0 (by omega) (.int .i64 z) ⟨z, c.us[u].kind, c.us[u].ser, c.us[u].cyl, c.us[u].head⟩ rfl
  rw [Nat.add_zero] at v0
  have v1 := fun z => uni_set hmu 1 (by omega) (.int .i64 z) ⟨c.us[u].addr, z, c.us[u].ser, c.us[u].cyl, c.us[u].head⟩ rfl
  have v2 := fun z => uni_set hmu 2 (by omega) (.str z) ⟨c.us[u].addr, c.us[u].kind, z, c.us[u].cyl, c.us[u].head⟩ rfl
  have v3 := fun z => uni_set hmu 3 (by omega) (.int .i64 z) ⟨c.us[u].addr, c.us[u].kind, c.us[u].ser, z, c.us[u].head⟩ rfl
  have v4 := fun z => uni_set hmu 4 (by omega) (.int .i64 z) ⟨c.us[u].addr, c.us[u].kind, c.us[u].ser, c.us[u].cyl, z⟩ rfl
  have v5 := uni_putRow hmu c.us[0]
  have v5 : spl1 (u * 5) [.int .i64 c.us[0].addr, .int .i64 c.us[0].kind, .str c.us[0].ser, .int .i64 c.us[0].cyl, .int .i64 c.us[0].head] (c.us.map uniC).flatten = ((c.us.set u c.us[0]).map uniC).flatten := v5
  have f0 : decide ((c.us.length : Int) = 0) = false := decide_eq_false (by omega)
  clear hz g0 g1 s0 s1 gc gp hm
  refine vwp_seq_k fun Nl hNl => ?_
  refine vwp_seq_k fun Nk hNk => vreg tt_ok hF rfl ?_; simp only [go_sem, Int.reduceEq, Int.reduceLT, Nat.reduceEqDiff, Nat.reduceAdd, Nat.reduceMul, Nat.reduceLT, Nat.reduceLeDiff, Int.reduceToNat, uni_cvt, par_cvt, uni_refs, par_refs]
  refine hNk _ (VWp.keep [1,2,6,7,84] [6,7,500101,500102] ?_); simp only [go_sem, Int.reduceEq, Int.reduceLT, Nat.reduceEqDiff, Nat.reduceAdd, Nat.reduceMul, Nat.reduceLT, Nat.reduceLeDiff, Int.reduceToNat, uni_cvt, par_cvt, uni_refs, par_refs]
  refine vif rfl ⟨(fun ht => by rw [f0] at ht; cases ht), fun hf => ?_⟩
  refine vwp_skip (hNl _ ?_)
  refine vwp_seq_k fun Nm hNm => vregd tt_ok mixed hF rfl (by kernel_rfl) (by kernel_rfl) ?_
  simp only [e0, e1, e2u, e6, go_sem, Int.reduceEq, Int.reduceLT, Nat.reduceEqDiff, Nat.reduceAdd, Nat.reduceMul, Nat.reduceLT, Nat.reduceLeDiff, Int.reduceToNat, uni_cvt, par_cvt, uni_refs, par_refs]
  refine ⟨by omega, ⟨by omega, by omega⟩, ?_⟩
  refine hNm _ (VWp.keep [1,2,6,7,9] [6,7,500101,500102] ?_); simp only [go_sem, Int.reduceEq, Int.reduceLT, Nat.reduceEqDiff, Nat.reduceAdd, Nat.reduceMul, Nat.reduceLT, Nat.reduceLeDiff, Int.reduceToNat, uni_cvt, par_cvt, uni_refs, par_refs]
  refine vmeet (fun x : List UniT => [(6, .ptr 6 0), (7, .ptr 7 0)])
    (fun x => [(6, .box 25 [.nil, .int .i64 0, .nil]), (7, .box 25 [.hs 500101 c.us.length, .int .i64 z.1, .hs 500102 c.ps.length]), (500101, .box 58 (x.map uniC).flatten), (500102, .box 65 (z.2.map parC).flatten)])
    (fun x => x = spU q c.us u by0) ?_ ?_
  · refine vwp_seq_k fun Nn hNn => vreg tt_ok hF rfl ?_; simp only [e5, e12, go_sem, Int.reduceEq, Int.reduceLT, Nat.reduceEqDiff, Nat.reduceAdd, Nat.reduceMul, Nat.reduceLT, Nat.reduceLeDiff, Int.reduceToNat, uni_cvt, par_cvt, uni_refs, par_refs]
    refine hNn _ (VWp.keep [2,6,7,9,97] [6,7,500101,500102] ?_); simp only [go_sem, Int.reduceEq, Int.reduceLT, Nat.reduceEqDiff, Nat.reduceAdd, Nat.reduceMul, Nat.reduceLT, Nat.reduceLeDiff, Int.reduceToNat, uni_cvt, par_cvt, uni_refs, par_refs]
    refine vwp_block ?_
    refine vwp_seq_k fun Nx5 hNx5 => vreg tt_ok hF rfl ?_; simp only [go_sem, Int.reduceEq, Int.reduceLT, Nat.reduceEqDiff, Nat.reduceAdd, Nat.reduceMul, Nat.reduceLT, Nat.reduceLeDiff, Int.reduceToNat, uni_cvt, par_cvt, uni_refs, par_refs]
    refine hNx5 _ (VWp.keep [2,6,7,9,97,98] [6,7,500101,500102] ?_); simp only [go_sem, Int.reduceEq, Int.reduceLT, Nat.reduceEqDiff, Nat.reduceAdd, Nat.reduceMul, Nat.reduceLT, Nat.reduceLeDiff, Int.reduceToNat, uni_cvt, par_cvt, uni_refs, par_refs]
    refine vif rfl ⟨fun ht => ?_, fun hf => ?_⟩
    · have h5 : q = 5 := by have := of_decide_eq_true ht; omega
      refine vreg tt_ok hF rfl ?_
      simp only [k0, k1, k2, k3, k4, k5, k6, ul, v0, v1, v2, v3, v4, v5, go_sem, Int.reduceEq, Int.reduceLT, Nat.reduceEqDiff, Nat.reduceAdd, Nat.reduceMul, Nat.reduceLT, Nat.reduceLeDiff, Int.reduceToNat, uni_cvt, par_cvt, uni_refs, par_refs]
      exact ⟨by omega, by omega, _, rfl, by simp [spU, h5, hmu, hul]⟩
    have h5 : q ≠ 5 := by have := of_decide_eq_false hf; omega
    refine vwp_seq_k fun Nx6 hNx6 => vreg tt_ok hF rfl ?_; simp only [go_sem, Int.reduceEq, Int.reduceLT, Nat.reduceEqDiff, Nat.reduceAdd, Nat.reduceMul, Nat.reduceLT, Nat.reduceLeDiff, Int.reduceToNat, uni_cvt, par_cvt, uni_refs, par_refs]
    refine hNx6 _ (VWp.keep [2,6,7,9,97,109] [6,7,500101,500102] ?_); simp only [go_sem, Int.reduceEq, Int.reduceLT, Nat.reduceEqDiff, Nat.reduceAdd, Nat.reduceMul, Nat.reduceLT, Nat.reduceLeDiff, Int.reduceToNat, uni_cvt, par_cvt, uni_refs, par_refs]
    refine vif rfl ⟨fun ht => ?_, fun hf => ?_⟩
    · have h6 : q = 6 := by have := of_decide_eq_true ht; omega
      refine vreg tt_ok hF rfl ?_
      simp only [k0, k1, k2, k3, k4, k5, k6, ul, v0, v1, v2, v3, v4, v5, go_sem, Int.reduceEq, Int.reduceLT, Nat.reduceEqDiff, Nat.reduceAdd, Nat.reduceMul, Nat.reduceLT, Nat.reduceLeDiff, Int.reduceToNat, uni_cvt, par_cvt, uni_refs, par_refs]
      exact ⟨by omega, by omega, _, rfl, by simp [spU, h6, hmu, hul]⟩
    have h6 : q ≠ 6 := by have := of_decide_eq_false hf; omega
    refine vwp_seq_k fun Nx7 hNx7 => vreg tt_ok hF rfl ?_; simp only [go_sem, Int.reduceEq, Int.reduceLT, Nat.reduceEqDiff, Nat.reduceAdd, Nat.reduceMul, Nat.reduceLT, Nat.reduceLeDiff, Int.reduceToNat, uni_cvt, par_cvt, uni_refs, par_refs]
    refine hNx7 _ (VWp.keep [2,6,7,9,97,120] [6,7,500101,500102] ?_); simp only [go_sem, Int.reduceEq, Int.reduceLT, Nat.reduceEqDiff, Nat.reduceAdd, Nat.reduceMul, Nat.reduceLT, Nat.reduceLeDiff, Int.reduceToNat, uni_cvt, par_cvt, uni_refs, par_refs]
    refine vif rfl ⟨fun ht => ?_, fun hf => ?_⟩
    · have h7 : q = 7 := by have := of_decide_eq_true ht; omega
      refine vregdC .all tt_ok mixed hF rfl (by kernel_rfl) (by kernel_rfl) ?_
      simp only [k0, k1, k2, k3, k4, k5, k6, ul, v0, v1, v2, v3, v4, v5, go_sem, Int.reduceEq, Int.reduceLT, Nat.reduceEqDiff, Nat.reduceAdd, Nat.reduceMul, Nat.reduceLT, Nat.reduceLeDiff, Int.reduceToNat, uni_cvt, par_cvt, uni_refs, par_refs]
      exact ⟨by omega, by omega, by omega, _, rfl, by simp [spU, h7, hmu, hul]⟩
    have h7 : q ≠ 7 := by have := of_decide_eq_false hf; omega
    refine vwp_seq_k fun Nx8 hNx8 => vreg tt_ok hF rfl ?_; simp only [go_sem, Int.reduceEq, Int.reduceLT, Nat.reduceEqDiff, Nat.reduceAdd, Nat.reduceMul, Nat.reduceLT, Nat.reduceLeDiff, Int.reduceToNat, uni_cvt, par_cvt, uni_refs, par_refs]
    refine hNx8 _ (VWp.keep [2,6,7,9,97,134] [6,7,500101,500102] ?_); simp only [go_sem, Int.reduceEq, Int.reduceLT, Nat.reduceEqDiff, Nat.reduceAdd, Nat.reduceMul, Nat.reduceLT, Nat.reduceLeDiff, Int.reduceToNat, uni_cvt, par_cvt, uni_refs, par_refs]
    refine vif rfl ⟨fun ht => ?_, fun hf => ?_⟩
    · have h8 : q = 8 := by have := of_decide_eq_true ht; omega
      refine vreg tt_ok hF rfl ?_
      simp only [k0, k1, k2, k3, k4, k5, k6, ul, v0, v1, v2, v3, v4, v5, go_sem, Int.reduceEq, Int.reduceLT, Nat.reduceEqDiff, Nat.reduceAdd, Nat.reduceMul, Nat.reduceLT, Nat.reduceLeDiff, Int.reduceToNat, uni_cvt, par_cvt, uni_refs, par_refs]
      exact ⟨by omega, by omega, _, rfl, by simp [spU, h8, hmu, hul]⟩
    have h8 : q ≠ 8 := by have := of_decide_eq_false hf; omega
    refine vwp_seq_k fun Nx9 hNx9 => vreg tt_ok hF rfl ?_; simp only [go_sem, Int.reduceEq, Int.reduceLT, Nat.reduceEqDiff, Nat.reduceAdd, Nat.reduceMul, Nat.reduceLT, Nat.reduceLeDiff, Int.reduceToNat, uni_cvt, par_cvt, uni_refs, par_refs]
    refine hNx9 _ (VWp.keep [2,6,7,9,97,145] [6,7,500101,500102] ?_); simp only [go_sem, Int.reduceEq, Int.reduceLT, Nat.reduceEqDiff, Nat.reduceAdd, Nat.reduceMul, Nat.reduceLT, Nat.reduceLeDiff, Int.reduceToNat, uni_cvt, par_cvt, uni_refs, par_refs]
    refine vif rfl ⟨fun ht => ?_, fun hf => ?_⟩
    · have h9 : q = 9 := by have := of_decide_eq_true ht; omega
      refine vreg tt_ok hF rfl ?_
      simp only [k0, k1, k2, k3, k4, k5, k6, ul, v0, v1, v2, v3, v4, v5, go_sem, Int.reduceEq, Int.reduceLT, Nat.reduceEqDiff, Nat.reduceAdd, Nat.reduceMul, Nat.reduceLT, Nat.reduceLeDiff, Int.reduceToNat, uni_cvt, par_cvt, uni_refs, par_refs]
      exact ⟨by omega, by omega, _, rfl, by simp [spU, h9, hmu, hul]⟩
    have h9 : q ≠ 9 := by have := of_decide_eq_false hf; omega
    refine vwp_seq_k fun Nx10 hNx10 => vreg tt_ok hF rfl ?_; simp only [go_sem, Int.reduceEq, Int.reduceLT, Nat.reduceEqDiff, Nat.reduceAdd, Nat.reduceMul, Nat.reduceLT, Nat.reduceLeDiff, Int.reduceToNat, uni_cvt, par_cvt, uni_refs, par_refs]
    refine hNx10 _ (VWp.keep [2,6,7,9,97,156] [6,7,500101,500102] ?_); simp only [go_sem, Int.reduceEq, Int.reduceLT, Nat.reduceEqDiff, Nat.reduceAdd, Nat.reduceMul, Nat.reduceLT, Nat.reduceLeDiff, Int.reduceToNat, uni_cvt, par_cvt, uni_refs, par_refs]
    refine vif rfl ⟨fun ht => ?_, fun hf => ?_⟩
    · have h10 : q = 10 := by have := of_decide_eq_true ht; omega
      refine vreg tt_ok hF rfl ?_
      simp only [k0, k1, k2, k3, k4, k5, k6, ul, v0, v1, v2, v3, v4, v5, go_sem, Int.reduceEq, Int.reduceLT, Nat.reduceEqDiff, Nat.reduceAdd, Nat.reduceMul, Nat.reduceLT, Nat.reduceLeDiff, Int.reduceToNat, uni_cvt, par_cvt, uni_refs, par_refs]
      exact ⟨⟨by omega, by omega⟩, by omega, by omega, _, rfl, by simp [spU, h10, hmu, hul]⟩
    have h10 : q ≠ 10 := by have := of_decide_eq_false hf; omega
    refine vwp_seq_k fun Nx11 hNx11 => vreg tt_ok hF rfl ?_; simp only [go_sem, Int.reduceEq, Int.reduceLT, Nat.reduceEqDiff, Nat.reduceAdd, Nat.reduceMul, Nat.reduceLT, Nat.reduceLeDiff, Int.reduceToNat, uni_cvt, par_cvt, uni_refs, par_refs]
    refine hNx11 _ (VWp.keep [2,6,7,9,97,166] [6,7,500101,500102] ?_); simp only [go_sem, Int.reduceEq, Int.reduceLT, Nat.reduceEqDiff, Nat.reduceAdd, Nat.reduceMul, Nat.reduceLT, Nat.reduceLeDiff, Int.reduceToNat, uni_cvt, par_cvt, uni_refs, par_refs]
    refine vif rfl ⟨fun ht => ?_, fun hf => ?_⟩
    · have h11 : q = 11 := by have := of_decide_eq_true ht; omega
      refine vreg tt_ok hF rfl ?_
      simp only [k0, k1, k2, k3, k4, k5, k6, ul, v0, v1, v2, v3, v4, v5, go_sem, Int.reduceEq, Int.reduceLT, Nat.reduceEqDiff, Nat.reduceAdd, Nat.reduceMul, Nat.reduceLT, Nat.reduceLeDiff, Int.reduceToNat, uni_cvt, par_cvt, uni_refs, par_refs]
      exact ⟨⟨by omega, by omega⟩, by omega, by omega, _, rfl, by simp [spU, h11, hmu, hul]⟩
    have h11 : q ≠ 11 := by have := of_decide_eq_false hf; omega
    refine vwp_skip ?_
    simp only [go_sem, Int.reduceEq, Int.reduceLT, Nat.reduceEqDiff, Nat.reduceAdd, Nat.reduceMul, Nat.reduceLT, Nat.reduceLeDiff, Int.reduceToNat, uni_cvt, par_cvt, uni_refs, par_refs]
    exact ⟨_, rfl, by simp [spU, h5, h6, h7, h8, h9, h10, h11]⟩
  rintro x hx
  rw [← hx]
  have hxl : x.length = c.us.length := by rw [hx]; exact spU_len _ _ _ _
  clear hx v0 v1 v2 v3 v4 v5 k0 k1 k2 k3 k4 k5 k6
  refine vwp_seq_k fun Ny hNy => vreg tt_ok hF rfl ?_; simp only [go_sem, Int.reduceEq, Int.reduceLT, Nat.reduceEqDiff, Nat.reduceAdd, Nat.reduceMul, Nat.reduceLT, Nat.reduceLeDiff, Int.reduceToNat, uni_cvt, par_cvt, uni_refs, par_refs]
  refine hNy _ (VWp.keep [6] [6,500101,500102] ?_); simp only [go_sem, Int.reduceEq, Int.reduceLT, Nat.reduceEqDiff, Nat.reduceAdd, Nat.reduceMul, Nat.reduceLT, Nat.reduceLeDiff, Int.reduceToNat, uni_cvt, par_cvt, uni_refs, par_refs]
  (refine vwp_ret ?_; simp only [go_sem, Int.reduceEq, Int.reduceLT, Nat.reduceEqDiff, Nat.reduceAdd, Nat.reduceMul, Nat.reduceLT, Nat.reduceLeDiff, Int.reduceToNat, uni_cvt, par_cvt, uni_refs, par_refs]; first | exact LeV.refl _ | exact LeV.of_eq (by simp))
end Go.Proofs.YtedbbinlcdgkoaaGreatDoor

/- Layer 19: the law's spoil (no units). -/
-- FUSE
-- LESS
-- SIMP: uni_cvt, par_cvt, uni_refs, par_refs
namespace Go.Proofs.YtedbbinlcdgkoaaGreatDoor
open Go.RowKit Go.Lib
set_option linter.unusedVariables false
set_option linter.unusedSimpArgs false
set_option maxHeartbeats 8000000 in
set_option maxRecDepth 4000 in
theorem spoil_hs1 (c : CfgT) (n : Nat) (hn : n < 256) (by0 : Int) (hcl : ∀ p ∈ c.ps, p.cls.length ≤ 1000000) (h2 : c.ps.length ≤ 4) (hu : c.us = []) (hp : c.ps ≠ []) (hq4 : n % 12 ≠ 4) : SpecB Tryz.prog 12 [.agg (cfgC c), .int .u8 n, .int .i64 by0] [] (.agg [.sl 5 [], .int .i64 (spP (n % 12) c.store c.ps (n / 16 % c.ps.length) by0).1, .hs 500102 c.ps.length])
    [(500102, .box 65 ((spP (n % 12) c.store c.ps (n / 16 % c.ps.length) by0).2.map parC).flatten)] := by
  have h1 : c.us.length ≤ 16 := by rw [hu]; decide
  have href := Ref_spec c (by omega) (by omega)
  have hpg := Prog_hs1 c (by omega) (by omega) hu hp
  have fu := (uni_flat c.us).2
  have fp := (par_flat c.ps).2
  have hpl : 0 < c.ps.length := List.length_pos_iff.2 hp
  have hm := Nat.mod_lt (n / 16) hpl
  have hm12 := Nat.mod_lt n (show 0 < 12 by decide)
  have e1 : (n : Int).tdiv 16 = ((n / 16 : Nat) : Int) := by rw [tdiv_pos (by omega)]; omega
  have e2 : ((n / 16 : Nat) : Int).tmod (c.ps.length : Int) = ((n / 16 % c.ps.length : Nat) : Int) := by rw [tmod_pos (by omega)]; rfl
  have e5 : (n : Int).tmod 12 = ((n % 12 : Nat) : Int) := by rw [tmod_pos (by omega)]; omega
  have e0 : IntKind.i64.wrap ((n / 16 : Nat) : Int) = ((n / 16 : Nat) : Int) := wrap_i64 (by omega) (by omega)
  have e6 : IntKind.u8.wrap ((n / 16 : Nat) : Int) = ((n / 16 : Nat) : Int) := by rw [wrap_u8]; omega
  have e12 : IntKind.u8.wrap ((n % 12 : Nat) : Int) = ((n % 12 : Nat) : Int) := by rw [wrap_u8]; omega
  obtain ⟨p, hpp⟩ : ∃ p, n / 16 % c.ps.length = p := ⟨_, rfl⟩
  obtain ⟨q, hqq⟩ : ∃ q, n % 12 = q := ⟨_, rfl⟩
  rw [hpp] at e2 hm
  rw [hqq] at e5 hm12 e12 hq4
  rw [hpp, hqq]
  have g0 := par_size hm
  have g1 := par_cls hm
  have gl := par_len c.ps
  have s0 := fun z => par_set0 hm z
  have s1 := fun z => par_set1 hm z
  have gc := hcl _ (List.getElem_mem hm)
  have gp : c.ps.getD p ⟨0, []⟩ = c.ps[p] := by simp [List.getD_eq_getElem?_getD, hm]
  unfold cfgC at href hpg ⊢
  refine specB_of tt_ok Tryz.func12 rfl (by decide) Tryz.ntmps12 (congrArg Array.toList Tryz.results12) (by simp) (by decide) rfl (by simp only [go_sem, Int.reduceEq, Int.reduceLT, Nat.reduceEqDiff, Nat.reduceAdd, Nat.reduceMul, Nat.reduceLT, Nat.reduceLeDiff, Int.reduceToNat, uni_cvt, par_cvt, uni_refs, par_refs]) (fun F hF => ?_)
  refine vwp_seq_k fun Na hNa => vreg tt_ok hF rfl ?_; simp only [go_sem, Int.reduceEq, Int.reduceLT, Nat.reduceEqDiff, Nat.reduceAdd, Nat.reduceMul, Nat.reduceLT, Nat.reduceLeDiff, Int.reduceToNat, uni_cvt, par_cvt, uni_refs, par_refs]
  refine hNa _ (VWp.keepR [1,2,3,6] [3,6] tt_ok hF rfl fun Nb hNb => ?_); simp only [go_sem, Int.reduceEq, Int.reduceLT, Nat.reduceEqDiff, Nat.reduceAdd, Nat.reduceMul, Nat.reduceLT, Nat.reduceLeDiff, Int.reduceToNat, uni_cvt, par_cvt, uni_refs, par_refs]
  refine .inl ⟨_, href, ?_⟩; try simp only [go_sem, Int.reduceEq, Int.reduceLT, Nat.reduceEqDiff, Nat.reduceAdd, Nat.reduceMul, Nat.reduceLT, Nat.reduceLeDiff, Int.reduceToNat, uni_cvt, par_cvt, uni_refs, par_refs]
  refine .inr (bxo [(500012, 500102)] rfl ?_); simp only [go_sem, Int.reduceEq, Int.reduceLT, Nat.reduceEqDiff, Nat.reduceAdd, Nat.reduceMul, Nat.reduceLT, Nat.reduceLeDiff, Int.reduceToNat, uni_cvt, par_cvt, uni_refs, par_refs]; refine ⟨_, _, hpg, ?_⟩; try simp only [go_sem, Int.reduceEq, Int.reduceLT, Nat.reduceEqDiff, Nat.reduceAdd, Nat.reduceMul, Nat.reduceLT, Nat.reduceLeDiff, Int.reduceToNat, uni_cvt, par_cvt, uni_refs, par_refs]
  refine hNb _ (VWp.keepR [1,2,6,7] [6,7,500102] tt_ok hF rfl fun Nc hNc => ?_); simp only [e0, e1, e2, e6, go_sem, Int.reduceEq, Int.reduceLT, Nat.reduceEqDiff, Nat.reduceAdd, Nat.reduceMul, Nat.reduceLT, Nat.reduceLeDiff, Int.reduceToNat, uni_cvt, par_cvt, uni_refs, par_refs]
  refine ⟨by omega, ?_⟩
  refine hNc _ (VWp.keep [1,2,6,7,8] [6,7,500102] ?_); simp only [go_sem, Int.reduceEq, Int.reduceLT, Nat.reduceEqDiff, Nat.reduceAdd, Nat.reduceMul, Nat.reduceLT, Nat.reduceLeDiff, Int.reduceToNat, uni_cvt, par_cvt, uni_refs, par_refs]
  refine vmeet (fun z : Int × List ParT => [(1, .int .u8 n), (2, .int .i64 by0), (6, .ptr 6 0), (7, .ptr 7 0)])
    (fun z => [(6, .box 25 [.nil, .int .i64 0, .nil]), (7, .box 25 [.sl 5 [], .int .i64 z.1, .hs 500102 c.ps.length]), (500102, .box 65 (z.2.map parC).flatten)])
    (fun z => z = spP q c.store c.ps p by0) ?_ ?_
  · refine vwp_seq_k fun Ne hNe => vreg tt_ok hF rfl ?_; simp only [e5, e12, go_sem, Int.reduceEq, Int.reduceLT, Nat.reduceEqDiff, Nat.reduceAdd, Nat.reduceMul, Nat.reduceLT, Nat.reduceLeDiff, Int.reduceToNat, uni_cvt, par_cvt, uni_refs, par_refs]
    refine hNe _ (VWp.keep [1,2,6,7,8,21] [6,7,500102] ?_); simp only [go_sem, Int.reduceEq, Int.reduceLT, Nat.reduceEqDiff, Nat.reduceAdd, Nat.reduceMul, Nat.reduceLT, Nat.reduceLeDiff, Int.reduceToNat, uni_cvt, par_cvt, uni_refs, par_refs]
    refine vwp_block ?_
    refine vwp_seq_k fun Nf hNf => vreg tt_ok hF rfl ?_; simp only [go_sem, Int.reduceEq, Int.reduceLT, Nat.reduceEqDiff, Nat.reduceAdd, Nat.reduceMul, Nat.reduceLT, Nat.reduceLeDiff, Int.reduceToNat, uni_cvt, par_cvt, uni_refs, par_refs]
    refine hNf _ (VWp.keep [1,2,6,7,8,21,22] [6,7,500102] ?_); simp only [go_sem, Int.reduceEq, Int.reduceLT, Nat.reduceEqDiff, Nat.reduceAdd, Nat.reduceMul, Nat.reduceLT, Nat.reduceLeDiff, Int.reduceToNat, uni_cvt, par_cvt, uni_refs, par_refs]
    refine vif rfl ⟨fun ht => ?_, fun hf => ?_⟩
    · have h0 : q = 0 := by have := of_decide_eq_true ht; omega
      refine vreg tt_ok hF rfl ?_; simp only [go_sem, Int.reduceEq, Int.reduceLT, Nat.reduceEqDiff, Nat.reduceAdd, Nat.reduceMul, Nat.reduceLT, Nat.reduceLeDiff, Int.reduceToNat, uni_cvt, par_cvt, uni_refs, par_refs]
      exact ⟨_, rfl, by simp [spP, h0]⟩
    have h0 : q ≠ 0 := by have := of_decide_eq_false hf; omega
    refine vwp_seq_k fun Ng hNg => vreg tt_ok hF rfl ?_; simp only [go_sem, Int.reduceEq, Int.reduceLT, Nat.reduceEqDiff, Nat.reduceAdd, Nat.reduceMul, Nat.reduceLT, Nat.reduceLeDiff, Int.reduceToNat, uni_cvt, par_cvt, uni_refs, par_refs]
    refine hNg _ (VWp.keep [1,2,6,7,8,21,29] [6,7,500102] ?_); simp only [go_sem, Int.reduceEq, Int.reduceLT, Nat.reduceEqDiff, Nat.reduceAdd, Nat.reduceMul, Nat.reduceLT, Nat.reduceLeDiff, Int.reduceToNat, uni_cvt, par_cvt, uni_refs, par_refs]
    refine vif rfl ⟨fun ht => ?_, fun hf => ?_⟩
    · have h1 : q = 1 := by have := of_decide_eq_true ht; omega
      refine vregdC .all tt_ok mixed hF rfl (by kernel_rfl) (by kernel_rfl) ?_
      simp only [g0, g1, gl, s0, s1, go_sem, Int.reduceEq, Int.reduceLT, Nat.reduceEqDiff, Nat.reduceAdd, Nat.reduceMul, Nat.reduceLT, Nat.reduceLeDiff, Int.reduceToNat, uni_cvt, par_cvt, uni_refs, par_refs]
      refine ⟨⟨by omega, by omega⟩, by omega, ⟨by omega, by omega⟩, by omega, _, rfl, ?_⟩
      simp [spP, h1, hm]
    have h1 : q ≠ 1 := by have := of_decide_eq_false hf; omega
    refine vwp_seq_k fun Nh hNh => vreg tt_ok hF rfl ?_; simp only [go_sem, Int.reduceEq, Int.reduceLT, Nat.reduceEqDiff, Nat.reduceAdd, Nat.reduceMul, Nat.reduceLT, Nat.reduceLeDiff, Int.reduceToNat, uni_cvt, par_cvt, uni_refs, par_refs]
    refine hNh _ (VWp.keep [1,2,6,7,8,21,44] [6,7,500102] ?_); simp only [go_sem, Int.reduceEq, Int.reduceLT, Nat.reduceEqDiff, Nat.reduceAdd, Nat.reduceMul, Nat.reduceLT, Nat.reduceLeDiff, Int.reduceToNat, uni_cvt, par_cvt, uni_refs, par_refs]
    refine vif rfl ⟨fun ht => ?_, fun hf => ?_⟩
    · have h2 : q = 2 := by have := of_decide_eq_true ht; omega
      refine vregdC .all tt_ok mixed hF rfl (by kernel_rfl) (by kernel_rfl) ?_
      simp only [g0, g1, gl, s0, s1, go_sem, Int.reduceEq, Int.reduceLT, Nat.reduceEqDiff, Nat.reduceAdd, Nat.reduceMul, Nat.reduceLT, Nat.reduceLeDiff, Int.reduceToNat, uni_cvt, par_cvt, uni_refs, par_refs]
      refine ⟨⟨by omega, by omega⟩, by omega, by omega, ⟨by omega, by omega⟩, by omega, _, rfl, ?_⟩
      simp [spP, h2, hm]
    have h2 : q ≠ 2 := by have := of_decide_eq_false hf; omega
    refine vwp_seq_k fun Ni hNi => vreg tt_ok hF rfl ?_; simp only [go_sem, Int.reduceEq, Int.reduceLT, Nat.reduceEqDiff, Nat.reduceAdd, Nat.reduceMul, Nat.reduceLT, Nat.reduceLeDiff, Int.reduceToNat, uni_cvt, par_cvt, uni_refs, par_refs]
    refine hNi _ (VWp.keep [1,2,6,7,8,21,62] [6,7,500102] ?_); simp only [go_sem, Int.reduceEq, Int.reduceLT, Nat.reduceEqDiff, Nat.reduceAdd, Nat.reduceMul, Nat.reduceLT, Nat.reduceLeDiff, Int.reduceToNat, uni_cvt, par_cvt, uni_refs, par_refs]
    refine vif rfl ⟨fun ht => ?_, fun hf => ?_⟩
    · have h3 : q = 3 := by have := of_decide_eq_true ht; omega
      refine vreg tt_ok hF rfl ?_
      simp only [g0, g1, gl, s0, s1, go_sem, Int.reduceEq, Int.reduceLT, Nat.reduceEqDiff, Nat.reduceAdd, Nat.reduceMul, Nat.reduceLT, Nat.reduceLeDiff, Int.reduceToNat, uni_cvt, par_cvt, uni_refs, par_refs]
      refine ⟨⟨by omega, by omega⟩, by omega, _, rfl, ?_⟩
      simp [spP, h3, hm]
    have h3 : q ≠ 3 := by have := of_decide_eq_false hf; omega
    refine vwp_seq_k fun Nj hNj => vreg tt_ok hF rfl ?_; simp only [go_sem, Int.reduceEq, Int.reduceLT, Nat.reduceEqDiff, Nat.reduceAdd, Nat.reduceMul, Nat.reduceLT, Nat.reduceLeDiff, Int.reduceToNat, uni_cvt, par_cvt, uni_refs, par_refs]
    refine hNj _ (VWp.keep [1,2,6,7,8,21,69] [6,7,500102] ?_); simp only [go_sem, Int.reduceEq, Int.reduceLT, Nat.reduceEqDiff, Nat.reduceAdd, Nat.reduceMul, Nat.reduceLT, Nat.reduceLeDiff, Int.reduceToNat, uni_cvt, par_cvt, uni_refs, par_refs]
    refine vif rfl ⟨fun ht => ?_, fun hf => ?_⟩
    · exact absurd (by have := of_decide_eq_true ht; omega) hq4
    refine vwp_skip ?_
    simp only [go_sem, Int.reduceEq, Int.reduceLT, Nat.reduceEqDiff, Nat.reduceAdd, Nat.reduceMul, Nat.reduceLT, Nat.reduceLeDiff, Int.reduceToNat, uni_cvt, par_cvt, uni_refs, par_refs]
    exact ⟨_, rfl, by simp [spP, h0, h1, h2, h3]⟩
  rintro z hz
  have hzl : z.2.length = c.ps.length := by rw [hz]; exact spP_len _ _ _ _ _
  rw [← hz]
  clear hz g0 g1 s0 s1 gc gp hm
  refine vwp_seq_k fun Nl hNl => ?_
  refine vwp_seq_k fun Nk hNk => vreg tt_ok hF rfl ?_; simp only [go_sem, Int.reduceEq, Int.reduceLT, Nat.reduceEqDiff, Nat.reduceAdd, Nat.reduceMul, Nat.reduceLT, Nat.reduceLeDiff, Int.reduceToNat, uni_cvt, par_cvt, uni_refs, par_refs]
  refine hNk _ (VWp.keep [6,7,84] [6,7,500102] ?_); simp only [go_sem, Int.reduceEq, Int.reduceLT, Nat.reduceEqDiff, Nat.reduceAdd, Nat.reduceMul, Nat.reduceLT, Nat.reduceLeDiff, Int.reduceToNat, uni_cvt, par_cvt, uni_refs, par_refs]
  refine vif rfl ⟨fun ht => ?_, (fun hf => by first | cases hf | exact absurd hf (by decide))⟩
  refine vwp_seq_k fun Ny hNy => vreg tt_ok hF rfl ?_; simp only [go_sem, Int.reduceEq, Int.reduceLT, Nat.reduceEqDiff, Nat.reduceAdd, Nat.reduceMul, Nat.reduceLT, Nat.reduceLeDiff, Int.reduceToNat, uni_cvt, par_cvt, uni_refs, par_refs]
  refine hNy _ (VWp.keep [6] [6,500102] ?_); simp only [go_sem, Int.reduceEq, Int.reduceLT, Nat.reduceEqDiff, Nat.reduceAdd, Nat.reduceMul, Nat.reduceLT, Nat.reduceLeDiff, Int.reduceToNat, uni_cvt, par_cvt, uni_refs, par_refs]
  (refine vwp_ret ?_; simp only [go_sem, Int.reduceEq, Int.reduceLT, Nat.reduceEqDiff, Nat.reduceAdd, Nat.reduceMul, Nat.reduceLT, Nat.reduceLeDiff, Int.reduceToNat, uni_cvt, par_cvt, uni_refs, par_refs]; first | exact LeV.refl _ | exact LeV.of_eq (by simp))
end Go.Proofs.YtedbbinlcdgkoaaGreatDoor

/- Layer 19: the law's spoil (a partition more). -/
-- FUSE
-- LESS
-- SIMP: uni_cvt, par_cvt, uni_refs, par_refs
namespace Go.Proofs.YtedbbinlcdgkoaaGreatDoor
open Go.RowKit Go.Lib
set_option linter.unusedVariables false
set_option linter.unusedSimpArgs false
set_option maxHeartbeats 8000000 in
set_option maxRecDepth 4000 in
theorem spoil_four (c : CfgT) (n : Nat) (hn : n < 256) (by0 : Int) (h1 : c.us.length ≤ 16) (h2 : c.ps.length ≤ 4) (hp : c.ps ≠ []) (hq4 : n % 12 = 4) : Spec Tryz.prog 12 [.agg (cfgC c), .int .u8 n, .int .i64 by0] (.agg (cfgC ⟨c.us, c.store, c.ps ++ [c.ps.getD (n / 16 % c.ps.length) ⟨0, []⟩]⟩)) := by
  have href := Ref_spec c (by omega) (by omega)
  have hpg := Prog_B c (by omega) (by omega)
  have fu := (uni_flat c.us).2
  have fp := (par_flat c.ps).2
  have hpl : 0 < c.ps.length := List.length_pos_iff.2 hp
  have hm := Nat.mod_lt (n / 16) hpl
  have hm12 := Nat.mod_lt n (show 0 < 12 by decide)
  have e1 : (n : Int).tdiv 16 = ((n / 16 : Nat) : Int) := by rw [tdiv_pos (by omega)]; omega
  have e2 : ((n / 16 : Nat) : Int).tmod (c.ps.length : Int) = ((n / 16 % c.ps.length : Nat) : Int) := by rw [tmod_pos (by omega)]; rfl
  have e5 : (n : Int).tmod 12 = ((n % 12 : Nat) : Int) := by rw [tmod_pos (by omega)]; omega
  have e0 : IntKind.i64.wrap ((n / 16 : Nat) : Int) = ((n / 16 : Nat) : Int) := wrap_i64 (by omega) (by omega)
  have e6 : IntKind.u8.wrap ((n / 16 : Nat) : Int) = ((n / 16 : Nat) : Int) := by rw [wrap_u8]; omega
  have e12 : IntKind.u8.wrap ((n % 12 : Nat) : Int) = ((n % 12 : Nat) : Int) := by rw [wrap_u8]; omega
  obtain ⟨p, hpp⟩ : ∃ p, n / 16 % c.ps.length = p := ⟨_, rfl⟩
  obtain ⟨q, hqq⟩ : ∃ q, n % 12 = q := ⟨_, rfl⟩
  rw [hpp] at e2 hm
  rw [hqq] at e5 hm12 e12 hq4
  rw [hpp]
  subst hq4
  have g0 := par_size hm
  have g1 := par_cls hm
  have gl := par_len c.ps
  have s0 := fun z => par_set0 hm z
  have s1 := fun z => par_set1 hm z
  have gp : c.ps.getD p ⟨0, []⟩ = c.ps[p] := by simp [List.getD_eq_getElem?_getD, hm]
  have hget := par_row hm
  rw [gp]
  unfold cfgC at href hpg ⊢
  refine spec_of tt_ok Tryz.func12 rfl (by decide) Tryz.ntmps12 (congrArg Array.toList Tryz.results12) (by simp) (by decide) rfl rfl (fun F hF => ?_)
  refine vwp_seq_k fun Na hNa => vreg tt_ok hF rfl ?_; simp only [go_sem, Int.reduceEq, Int.reduceLT, Nat.reduceEqDiff, Nat.reduceAdd, Nat.reduceMul, Nat.reduceLT, Nat.reduceLeDiff, Int.reduceToNat, uni_cvt, par_cvt, uni_refs, par_refs]
  refine hNa _ (VWp.keepR [1,2,3,6] [3,6] tt_ok hF rfl fun Nb hNb => ?_); simp only [go_sem, Int.reduceEq, Int.reduceLT, Nat.reduceEqDiff, Nat.reduceAdd, Nat.reduceMul, Nat.reduceLT, Nat.reduceLeDiff, Int.reduceToNat, uni_cvt, par_cvt, uni_refs, par_refs]
  refine .inl ⟨_, href, ?_⟩; try simp only [go_sem, Int.reduceEq, Int.reduceLT, Nat.reduceEqDiff, Nat.reduceAdd, Nat.reduceMul, Nat.reduceLT, Nat.reduceLeDiff, Int.reduceToNat, uni_cvt, par_cvt, uni_refs, par_refs]
  refine .inr (bxo [(7, 500101), (500012, 500102)] rfl ?_); simp only [go_sem, Int.reduceEq, Int.reduceLT, Nat.reduceEqDiff, Nat.reduceAdd, Nat.reduceMul, Nat.reduceLT, Nat.reduceLeDiff, Int.reduceToNat, uni_cvt, par_cvt, uni_refs, par_refs]; refine ⟨_, _, hpg, ?_⟩; try simp only [go_sem, Int.reduceEq, Int.reduceLT, Nat.reduceEqDiff, Nat.reduceAdd, Nat.reduceMul, Nat.reduceLT, Nat.reduceLeDiff, Int.reduceToNat, uni_cvt, par_cvt, uni_refs, par_refs]
  refine hNb _ (VWp.keepR [1,2,6,7] [6,7,500101,500102] tt_ok hF rfl fun Nc hNc => ?_); simp only [e0, e1, e2, e6, go_sem, Int.reduceEq, Int.reduceLT, Nat.reduceEqDiff, Nat.reduceAdd, Nat.reduceMul, Nat.reduceLT, Nat.reduceLeDiff, Int.reduceToNat, uni_cvt, par_cvt, uni_refs, par_refs]
  refine ⟨by omega, ?_⟩
  refine hNc _ (VWp.keep [1,2,6,7,8] [6,7,500101,500102] ?_); simp only [go_sem, Int.reduceEq, Int.reduceLT, Nat.reduceEqDiff, Nat.reduceAdd, Nat.reduceMul, Nat.reduceLT, Nat.reduceLeDiff, Int.reduceToNat, uni_cvt, par_cvt, uni_refs, par_refs]
  refine vwp_seq_k fun Nl0 hNl0 => ?_
  refine vwp_seq_k fun Ne hNe => vreg tt_ok hF rfl ?_; simp only [e5, e12, go_sem, Int.reduceEq, Int.reduceLT, Nat.reduceEqDiff, Nat.reduceAdd, Nat.reduceMul, Nat.reduceLT, Nat.reduceLeDiff, Int.reduceToNat, uni_cvt, par_cvt, uni_refs, par_refs]
  refine hNe _ (VWp.keep [1,2,6,7,8,21] [6,7,500101,500102] ?_); simp only [go_sem, Int.reduceEq, Int.reduceLT, Nat.reduceEqDiff, Nat.reduceAdd, Nat.reduceMul, Nat.reduceLT, Nat.reduceLeDiff, Int.reduceToNat, uni_cvt, par_cvt, uni_refs, par_refs]
  refine vwp_block ?_
  refine vwp_seq_k fun Nf22 hNf22 => vreg tt_ok hF rfl ?_; simp only [go_sem, Int.reduceEq, Int.reduceLT, Nat.reduceEqDiff, Nat.reduceAdd, Nat.reduceMul, Nat.reduceLT, Nat.reduceLeDiff, Int.reduceToNat, uni_cvt, par_cvt, uni_refs, par_refs]
  refine hNf22 _ (VWp.keep [1,6,7,8,21,22] [6,7,500101,500102] ?_); simp only [go_sem, Int.reduceEq, Int.reduceLT, Nat.reduceEqDiff, Nat.reduceAdd, Nat.reduceMul, Nat.reduceLT, Nat.reduceLeDiff, Int.reduceToNat, uni_cvt, par_cvt, uni_refs, par_refs]
  refine vif rfl ⟨(fun hf => by first | cases hf | exact absurd hf (by decide)), fun ht => ?_⟩
  refine vwp_seq_k fun Nf29 hNf29 => vreg tt_ok hF rfl ?_; simp only [go_sem, Int.reduceEq, Int.reduceLT, Nat.reduceEqDiff, Nat.reduceAdd, Nat.reduceMul, Nat.reduceLT, Nat.reduceLeDiff, Int.reduceToNat, uni_cvt, par_cvt, uni_refs, par_refs]
  refine hNf29 _ (VWp.keep [1,6,7,8,21,29] [6,7,500101,500102] ?_); simp only [go_sem, Int.reduceEq, Int.reduceLT, Nat.reduceEqDiff, Nat.reduceAdd, Nat.reduceMul, Nat.reduceLT, Nat.reduceLeDiff, Int.reduceToNat, uni_cvt, par_cvt, uni_refs, par_refs]
  refine vif rfl ⟨(fun hf => by first | cases hf | exact absurd hf (by decide)), fun ht => ?_⟩
  refine vwp_seq_k fun Nf44 hNf44 => vreg tt_ok hF rfl ?_; simp only [go_sem, Int.reduceEq, Int.reduceLT, Nat.reduceEqDiff, Nat.reduceAdd, Nat.reduceMul, Nat.reduceLT, Nat.reduceLeDiff, Int.reduceToNat, uni_cvt, par_cvt, uni_refs, par_refs]
  refine hNf44 _ (VWp.keep [1,6,7,8,21,44] [6,7,500101,500102] ?_); simp only [go_sem, Int.reduceEq, Int.reduceLT, Nat.reduceEqDiff, Nat.reduceAdd, Nat.reduceMul, Nat.reduceLT, Nat.reduceLeDiff, Int.reduceToNat, uni_cvt, par_cvt, uni_refs, par_refs]
  refine vif rfl ⟨(fun hf => by first | cases hf | exact absurd hf (by decide)), fun ht => ?_⟩
  refine vwp_seq_k fun Nf62 hNf62 => vreg tt_ok hF rfl ?_; simp only [go_sem, Int.reduceEq, Int.reduceLT, Nat.reduceEqDiff, Nat.reduceAdd, Nat.reduceMul, Nat.reduceLT, Nat.reduceLeDiff, Int.reduceToNat, uni_cvt, par_cvt, uni_refs, par_refs]
  refine hNf62 _ (VWp.keep [1,6,7,8,21,62] [6,7,500101,500102] ?_); simp only [go_sem, Int.reduceEq, Int.reduceLT, Nat.reduceEqDiff, Nat.reduceAdd, Nat.reduceMul, Nat.reduceLT, Nat.reduceLeDiff, Int.reduceToNat, uni_cvt, par_cvt, uni_refs, par_refs]
  refine vif rfl ⟨(fun hf => by first | cases hf | exact absurd hf (by decide)), fun ht => ?_⟩
  refine vwp_seq_k fun Nf69 hNf69 => vreg tt_ok hF rfl ?_; simp only [go_sem, Int.reduceEq, Int.reduceLT, Nat.reduceEqDiff, Nat.reduceAdd, Nat.reduceMul, Nat.reduceLT, Nat.reduceLeDiff, Int.reduceToNat, uni_cvt, par_cvt, uni_refs, par_refs]
  refine hNf69 _ (VWp.keep [1,6,7,8,21,69] [6,7,500101,500102] ?_); simp only [go_sem, Int.reduceEq, Int.reduceLT, Nat.reduceEqDiff, Nat.reduceAdd, Nat.reduceMul, Nat.reduceLT, Nat.reduceLeDiff, Int.reduceToNat, uni_cvt, par_cvt, uni_refs, par_refs]
  refine vif rfl ⟨fun ht => ?_, (fun hf => by first | cases hf | exact absurd hf (by decide))⟩
  refine vregdC .all tt_ok mixed hF rfl (by kernel_rfl) (by kernel_rfl) ?_
  simp only [hget, Int.toNat_natCast, List.length_map, go_sem, Int.reduceEq, Int.reduceLT, Nat.reduceEqDiff, Nat.reduceAdd, Nat.reduceMul, Nat.reduceLT, Nat.reduceLeDiff, Int.reduceToNat, uni_cvt, par_cvt, uni_refs, par_refs]
  have hL : c.ps.map parC ++ [[.int .i64 c.ps[p].size, .str c.ps[p].cls]] = (c.ps ++ [c.ps[p]]).map parC := by rw [List.map_append]; rfl
  rw [hL]
  refine ⟨⟨by omega, by omega⟩, by omega, ?_⟩
  refine hNl0 _ (VWp.keep [1,6,7] [6,7,500101,500102] ?_); simp only [go_sem, Int.reduceEq, Int.reduceLT, Nat.reduceEqDiff, Nat.reduceAdd, Nat.reduceMul, Nat.reduceLT, Nat.reduceLeDiff, Int.reduceToNat, uni_cvt, par_cvt, uni_refs, par_refs]
  refine vwp_seq_k fun Nl hNl => ?_
  refine vwp_seq_k fun Nk hNk => vreg tt_ok hF rfl ?_; simp only [go_sem, Int.reduceEq, Int.reduceLT, Nat.reduceEqDiff, Nat.reduceAdd, Nat.reduceMul, Nat.reduceLT, Nat.reduceLeDiff, Int.reduceToNat, uni_cvt, par_cvt, uni_refs, par_refs]
  refine hNk _ (VWp.keep [1,6,7,84] [6,7,500101,500102] ?_); simp only [go_sem, Int.reduceEq, Int.reduceLT, Nat.reduceEqDiff, Nat.reduceAdd, Nat.reduceMul, Nat.reduceLT, Nat.reduceLeDiff, Int.reduceToNat, uni_cvt, par_cvt, uni_refs, par_refs]
  refine vif rfl ⟨fun ht => ?_, fun hf => ?_⟩
  · refine vwp_seq_k fun Ny hNy => vreg tt_ok hF rfl ?_; simp only [go_sem, Int.reduceEq, Int.reduceLT, Nat.reduceEqDiff, Nat.reduceAdd, Nat.reduceMul, Nat.reduceLT, Nat.reduceLeDiff, Int.reduceToNat, uni_cvt, par_cvt, uni_refs, par_refs]
    refine hNy _ (VWp.keep [6] [6,500101,500102] ?_); simp only [go_sem, Int.reduceEq, Int.reduceLT, Nat.reduceEqDiff, Nat.reduceAdd, Nat.reduceMul, Nat.reduceLT, Nat.reduceLeDiff, Int.reduceToNat, uni_cvt, par_cvt, uni_refs, par_refs]
    refine vwp_ret ?_; simp only [go_sem, Int.reduceEq, Int.reduceLT, Nat.reduceEqDiff, Nat.reduceAdd, Nat.reduceMul, Nat.reduceLT, Nat.reduceLeDiff, Int.reduceToNat, uni_cvt, par_cvt, uni_refs, par_refs]
    exact LeV.refl _
  have hul : c.us.length ≠ 0 := by have := of_decide_eq_false hf; omega
  have hmu := Nat.mod_lt (n / 16) (Nat.pos_of_ne_zero hul)
  have e2u : ((n / 16 : Nat) : Int).tmod (c.us.length : Int) = ((n / 16 % c.us.length : Nat) : Int) := by rw [tmod_pos (by omega)]; rfl
  obtain ⟨u, huu⟩ : ∃ u, n / 16 % c.us.length = u := ⟨_, rfl⟩
  rw [huu] at e2u hmu
  refine vwp_skip (hNl _ ?_)
  refine vwp_seq_k fun Nm hNm => vregd tt_ok mixed hF rfl (by kernel_rfl) (by kernel_rfl) ?_
  simp only [e0, e1, e2u, e6, List.length_map, go_sem, Int.reduceEq, Int.reduceLT, Nat.reduceEqDiff, Nat.reduceAdd, Nat.reduceMul, Nat.reduceLT, Nat.reduceLeDiff, Int.reduceToNat, uni_cvt, par_cvt, uni_refs, par_refs]
  refine ⟨by omega, ⟨by omega, by omega⟩, ?_⟩
  refine hNm _ (VWp.keep [1,6,7] [6,7,500101,500102] ?_); simp only [go_sem, Int.reduceEq, Int.reduceLT, Nat.reduceEqDiff, Nat.reduceAdd, Nat.reduceMul, Nat.reduceLT, Nat.reduceLeDiff, Int.reduceToNat, uni_cvt, par_cvt, uni_refs, par_refs]
  refine vwp_seq_k fun Nl1 hNl1 => ?_
  refine vwp_seq_k fun Nn hNn => vreg tt_ok hF rfl ?_; simp only [e5, e12, go_sem, Int.reduceEq, Int.reduceLT, Nat.reduceEqDiff, Nat.reduceAdd, Nat.reduceMul, Nat.reduceLT, Nat.reduceLeDiff, Int.reduceToNat, uni_cvt, par_cvt, uni_refs, par_refs]
  refine hNn _ (VWp.keep [6,7,97] [6,7,500101,500102] ?_); simp only [go_sem, Int.reduceEq, Int.reduceLT, Nat.reduceEqDiff, Nat.reduceAdd, Nat.reduceMul, Nat.reduceLT, Nat.reduceLeDiff, Int.reduceToNat, uni_cvt, par_cvt, uni_refs, par_refs]
  refine vwp_block ?_
  refine vwp_seq_k fun Nf98 hNf98 => vreg tt_ok hF rfl ?_; simp only [go_sem, Int.reduceEq, Int.reduceLT, Nat.reduceEqDiff, Nat.reduceAdd, Nat.reduceMul, Nat.reduceLT, Nat.reduceLeDiff, Int.reduceToNat, uni_cvt, par_cvt, uni_refs, par_refs]
  refine hNf98 _ (VWp.keep [6,7,97,98] [6,7,500101,500102] ?_); simp only [go_sem, Int.reduceEq, Int.reduceLT, Nat.reduceEqDiff, Nat.reduceAdd, Nat.reduceMul, Nat.reduceLT, Nat.reduceLeDiff, Int.reduceToNat, uni_cvt, par_cvt, uni_refs, par_refs]
  refine vif rfl ⟨(fun hf => by first | cases hf | exact absurd hf (by decide)), fun ht => ?_⟩
  refine vwp_seq_k fun Nf109 hNf109 => vreg tt_ok hF rfl ?_; simp only [go_sem, Int.reduceEq, Int.reduceLT, Nat.reduceEqDiff, Nat.reduceAdd, Nat.reduceMul, Nat.reduceLT, Nat.reduceLeDiff, Int.reduceToNat, uni_cvt, par_cvt, uni_refs, par_refs]
  refine hNf109 _ (VWp.keep [6,7,97,109] [6,7,500101,500102] ?_); simp only [go_sem, Int.reduceEq, Int.reduceLT, Nat.reduceEqDiff, Nat.reduceAdd, Nat.reduceMul, Nat.reduceLT, Nat.reduceLeDiff, Int.reduceToNat, uni_cvt, par_cvt, uni_refs, par_refs]
  refine vif rfl ⟨(fun hf => by first | cases hf | exact absurd hf (by decide)), fun ht => ?_⟩
  refine vwp_seq_k fun Nf120 hNf120 => vreg tt_ok hF rfl ?_; simp only [go_sem, Int.reduceEq, Int.reduceLT, Nat.reduceEqDiff, Nat.reduceAdd, Nat.reduceMul, Nat.reduceLT, Nat.reduceLeDiff, Int.reduceToNat, uni_cvt, par_cvt, uni_refs, par_refs]
  refine hNf120 _ (VWp.keep [6,7,97,120] [6,7,500101,500102] ?_); simp only [go_sem, Int.reduceEq, Int.reduceLT, Nat.reduceEqDiff, Nat.reduceAdd, Nat.reduceMul, Nat.reduceLT, Nat.reduceLeDiff, Int.reduceToNat, uni_cvt, par_cvt, uni_refs, par_refs]
  refine vif rfl ⟨(fun hf => by first | cases hf | exact absurd hf (by decide)), fun ht => ?_⟩
  refine vwp_seq_k fun Nf134 hNf134 => vreg tt_ok hF rfl ?_; simp only [go_sem, Int.reduceEq, Int.reduceLT, Nat.reduceEqDiff, Nat.reduceAdd, Nat.reduceMul, Nat.reduceLT, Nat.reduceLeDiff, Int.reduceToNat, uni_cvt, par_cvt, uni_refs, par_refs]
  refine hNf134 _ (VWp.keep [6,7,97,134] [6,7,500101,500102] ?_); simp only [go_sem, Int.reduceEq, Int.reduceLT, Nat.reduceEqDiff, Nat.reduceAdd, Nat.reduceMul, Nat.reduceLT, Nat.reduceLeDiff, Int.reduceToNat, uni_cvt, par_cvt, uni_refs, par_refs]
  refine vif rfl ⟨(fun hf => by first | cases hf | exact absurd hf (by decide)), fun ht => ?_⟩
  refine vwp_seq_k fun Nf145 hNf145 => vreg tt_ok hF rfl ?_; simp only [go_sem, Int.reduceEq, Int.reduceLT, Nat.reduceEqDiff, Nat.reduceAdd, Nat.reduceMul, Nat.reduceLT, Nat.reduceLeDiff, Int.reduceToNat, uni_cvt, par_cvt, uni_refs, par_refs]
  refine hNf145 _ (VWp.keep [6,7,97,145] [6,7,500101,500102] ?_); simp only [go_sem, Int.reduceEq, Int.reduceLT, Nat.reduceEqDiff, Nat.reduceAdd, Nat.reduceMul, Nat.reduceLT, Nat.reduceLeDiff, Int.reduceToNat, uni_cvt, par_cvt, uni_refs, par_refs]
  refine vif rfl ⟨(fun hf => by first | cases hf | exact absurd hf (by decide)), fun ht => ?_⟩
  refine vwp_seq_k fun Nf156 hNf156 => vreg tt_ok hF rfl ?_; simp only [go_sem, Int.reduceEq, Int.reduceLT, Nat.reduceEqDiff, Nat.reduceAdd, Nat.reduceMul, Nat.reduceLT, Nat.reduceLeDiff, Int.reduceToNat, uni_cvt, par_cvt, uni_refs, par_refs]
  refine hNf156 _ (VWp.keep [6,7,97,156] [6,7,500101,500102] ?_); simp only [go_sem, Int.reduceEq, Int.reduceLT, Nat.reduceEqDiff, Nat.reduceAdd, Nat.reduceMul, Nat.reduceLT, Nat.reduceLeDiff, Int.reduceToNat, uni_cvt, par_cvt, uni_refs, par_refs]
  refine vif rfl ⟨(fun hf => by first | cases hf | exact absurd hf (by decide)), fun ht => ?_⟩
  refine vwp_seq_k fun Nf166 hNf166 => vreg tt_ok hF rfl ?_; simp only [go_sem, Int.reduceEq, Int.reduceLT, Nat.reduceEqDiff, Nat.reduceAdd, Nat.reduceMul, Nat.reduceLT, Nat.reduceLeDiff, Int.reduceToNat, uni_cvt, par_cvt, uni_refs, par_refs]
  refine hNf166 _ (VWp.keep [6,7,97,166] [6,7,500101,500102] ?_); simp only [go_sem, Int.reduceEq, Int.reduceLT, Nat.reduceEqDiff, Nat.reduceAdd, Nat.reduceMul, Nat.reduceLT, Nat.reduceLeDiff, Int.reduceToNat, uni_cvt, par_cvt, uni_refs, par_refs]
  refine vif rfl ⟨(fun hf => by first | cases hf | exact absurd hf (by decide)), fun ht => ?_⟩
  refine vwp_skip (hNl1 _ ?_)
  refine vwp_seq_k fun Nz hNz => vreg tt_ok hF rfl ?_; simp only [go_sem, Int.reduceEq, Int.reduceLT, Nat.reduceEqDiff, Nat.reduceAdd, Nat.reduceMul, Nat.reduceLT, Nat.reduceLeDiff, Int.reduceToNat, uni_cvt, par_cvt, uni_refs, par_refs]
  refine hNz _ (VWp.keep [6] [6,500101,500102] ?_); simp only [go_sem, Int.reduceEq, Int.reduceLT, Nat.reduceEqDiff, Nat.reduceAdd, Nat.reduceMul, Nat.reduceLT, Nat.reduceLeDiff, Int.reduceToNat, uni_cvt, par_cvt, uni_refs, par_refs]
  refine vwp_ret ?_; simp only [go_sem, Int.reduceEq, Int.reduceLT, Nat.reduceEqDiff, Nat.reduceAdd, Nat.reduceMul, Nat.reduceLT, Nat.reduceLeDiff, Int.reduceToNat, uni_cvt, par_cvt, uni_refs, par_refs]
  exact LeV.refl _
end Go.Proofs.YtedbbinlcdgkoaaGreatDoor
