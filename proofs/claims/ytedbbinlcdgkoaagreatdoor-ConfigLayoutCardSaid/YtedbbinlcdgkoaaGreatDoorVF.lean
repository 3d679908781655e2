import Derived.Test.YtedbbinlcdgkoaaGreatDoorVE
/- The value machine: indices, parts, slices, lengths. No program in sight. -/
namespace Go.Proofs.YtedbbinlcdgkoaaGreatDoor
open Go.RowKit
set_option linter.unusedVariables false
set_option linter.unusedSimpArgs false

section
variable {P : Program} {F : Env} {β : Bet} {s : St} {a : Act} {W : World} {d : Option Nat}

def indexAddrV (τ : TT) (T : TypeId) (x i : V) (ob : Option Ob) : Option Res :=
  match τ T, i with
  | some ti, .int _ n =>
    (match ti.k, x with
    | .slc e, .sl k rows => (match τ e with
      | some te => if te.size = k then okIf (0 ≤ n ∧ n < rows.length) (.rp (rows.getD n.toNat []) 0) else none
      | none => none)
    | .slc e, .own o m => (match τ e, ob with
      | some te, some (.arr k _ rows) => if te.size = k then okIf (prvB o rows = true ∧ m = rows.length ∧ 0 ≤ n ∧ n < rows.length) (.rp (rows.getD n.toNat []) 0) else none
      | _, _ => none)
    | .slc e, .hs o m => (match τ e with
      | some te => okIf (0 ≤ n ∧ n < m) (.ptr o (n.toNat * te.size))
      | none => none)
    | .arr len e, .ptr o p => (match τ e with
      | some te => okIf (0 ≤ n ∧ n < len) (.ptr o (p + n.toNat * te.size))
      | none => none)
    | .arr len e, .rp row p => (match τ e with
      | some te => okIf (0 ≤ n ∧ n < len) (.rp row (p + n.toNat * te.size))
      | none => none)
    | _, _ => none)
  | _, _ => none

theorem rp_of_sl {S : Sit} {k : Nat} {rows : List (List V)} {v : Value} (h : Rep S (.sl k rows) v) {n : Nat} (hn : n < rows.length) :
    ∃ b p cap, v = .slice (some ⟨b, p, none⟩) rows.length cap ∧ Rep S (.rp (rows.getD n []) 0) (.pointer (some ⟨b, p + n * k, none⟩)) := by
  obtain ⟨ad, cap, rfl, h1, h2, h3, h4, h5, h6⟩ := h
  cases ad with
  | none => rw [h3 rfl] at hn; simp at hn
  | some x =>
    obtain ⟨hs, ha⟩ := h6 x rfl
    obtain ⟨b, p, sp⟩ := x
    have hs : sp = none := hs (fun e => by rw [e] at hn; simp at hn); subst hs
    have hg : rows.getD n [] = rows[n] := by simp [List.getD_eq_getElem?_getD, List.getElem?_eq_getElem hn]
    refine ⟨b, p, cap, rfl, b, p + n * k, rfl, ?_, ?_⟩
    · rw [hg]; exact h5 _ (List.getElem_mem hn)
    · rw [hg]; exact ha.row h4 n hn

theorem indexAddrV_ok {τ : TT} (hτ : TTOk P τ) (h : Sim F β s a W) (hd : ∀ i, d = some i → i < F.n) {T : TypeId} {x i : V} {r : Res} (hr : indexAddrV τ T x i (obV s.o x) = some r) (hp : r.pre) {v u : Value} (hx : Rep (sit F β s.o W) x v) (hx2 : ∀ r ∈ x.refs, RefOk s.o r)
    (hi : Rep (sit F β s.o W) i u) : Does P F (Instr.indexAt T v u) s a W d r := by
  unfold indexAddrV at hr
  split at hr <;> try (cases hr; done)
  rename_i ti ki n hti
  cases hi
  have hkk := (hτ T ti hti).k
  have slice : ∀ {e te k rows} (v : Value), ti.k = .slc e → τ e = some te → te.size = k → Rep (sit F β s.o W) (.sl k rows) v → (0 ≤ n ∧ n < rows.length) → Does P F (Instr.indexAt T v (.int ki n)) s a W d ⟨(0 ≤ n ∧ n < rows.length), .rp (rows.getD n.toNat []) 0, .none⟩ := by
    intro e te k rows v hk hte hsz hx hp
    rw [hk] at hkk
    obtain ⟨n', rfl⟩ := Int.eq_ofNat_of_zero_le hp.1
    obtain ⟨b, p, cap, rfl, h2⟩ := rp_of_sl hx (n := n') (by omega)
    refine does_val h hd rfl (z := .pointer (some ⟨b, p + n' * k, none⟩)) ?_ h2 (by intro q hq; simp [V.refs] at hq)
    have hs := (hτ e te hte).sizeOf W
    simp [Instr.indexAt, run_underlying hkk, asIntOf, hs, hsz, Addr.add_lit]
    omega
  split at hr <;> try (cases hr; done)
  · rename_i e k rows hk
    split at hr <;> try (cases hr; done)
    rename_i te hte
    split at hr <;> try (cases hr; done)
    rename_i hsz
    injection hr with hr; subst hr
    exact slice v hk hte hsz hx hp
  · rename_i e o m hk
    split at hr <;> try (cases hr; done)
    rename_i te k E rows hte ho
    split at hr <;> try (cases hr; done)
    rename_i hsz
    injection hr with hr; subst hr
    obtain ⟨hpv, hm, hp⟩ := hp
    have ho : s.o o = some (.arr k E rows) := ho
    have hv : v = β.sv o := hx.2 (β.sv o) (by show svOf _ _ o m = _; unfold svOf; simp only [ho, hm, if_true])
    subst hv
    obtain ⟨z, W', β', h1, h2⟩ := slice (β.sv o) hk hte hsz (h.objs.lie ho hpv) hp
    exact ⟨z, W', β', h1, h2⟩
  · rename_i e o m hk
    split at hr <;> try (cases hr; done)
    rename_i te hte
    injection hr with hr; subst hr
    obtain ⟨cap, rfl, _⟩ := hx
    rw [hk] at hkk
    have hp : 0 ≤ n ∧ n < m := hp
    obtain ⟨n', rfl⟩ := Int.eq_ofNat_of_zero_le hp.1
    refine does_val h hd rfl (z := .pointer (some ⟨β.pb o, n' * te.size, none⟩)) ?_ rfl (by intro q hq; exact hx2 q (by simpa [V.refs] using hq))
    have hs := (hτ e te hte).sizeOf W
    have hlt : n' < m := by omega
    simp [Instr.indexAt, run_underlying hkk, asIntOf, hs, Addr.add_lit, hlt]
    try rfl
  · rename_i len e o p hk
    split at hr <;> try (cases hr; done)
    rename_i te hte
    injection hr with hr; subst hr
    cases hx
    rw [hk] at hkk
    have hp : 0 ≤ n ∧ n < len := hp
    obtain ⟨n', rfl⟩ := Int.eq_ofNat_of_zero_le hp.1
    refine does_val h hd rfl (z := .pointer (some ⟨β.pb o, p + n' * te.size, none⟩)) ?_ rfl (by intro q hq; exact hx2 q (by simpa [V.refs] using hq))
    have hs := (hτ e te hte).sizeOf W
    have hlt : n' < len := by omega
    simp [Instr.indexAt, run_underlying hkk, asIntOf, hs, Addr.add_lit, Instr.sureAddr, hlt]
    rfl
  · rename_i len e row p hk
    split at hr <;> try (cases hr; done)
    rename_i te hte
    injection hr with hr; subst hr
    obtain ⟨b, q, rfl, h1, h2⟩ := hx
    rw [hk] at hkk
    have hp : 0 ≤ n ∧ n < len := hp
    obtain ⟨n', rfl⟩ := Int.eq_ofNat_of_zero_le hp.1
    refine does_val h hd rfl (z := .pointer (some ⟨b, q + (p + n' * te.size), none⟩)) ?_ ⟨b, q, by simp, h1, h2⟩ (by intro q hq; simp [V.refs] at hq)
    have hs := (hτ e te hte).sizeOf W
    have hlt : n' < len := by omega
    simp [Instr.indexAt, run_underlying hkk, asIntOf, hs, Addr.add_lit, Instr.sureAddr, hlt, Nat.add_assoc]

def partV (ti : TI) (l : List V) (p : Nat) : Option Res :=
  if ti.k.row then okIf (p + ti.size ≤ l.length) (.agg ((l.drop p).take ti.size)) else okIf (p < l.length) (l.getD p .any)
theorem partV_ok {S : Sit} {ti : TI} {T : TypeId} (hok : TIOk P T ti) {l : List V} {p : Nat} {r : Res} (hr : partV ti l p = some r) (hp : r.pre) {cs : List Value} (hc : RepL S l cs) (h1 : ∀ u ∈ cs, u.oneCell' = true) :
    r.upd = .none ∧ (∀ x ∈ r.val.refs, x ∈ V.refsL l) ∧ ∃ z, (part T cs.toArray p).run P W = .ok z W ∧ Rep S r.val z := by
  unfold partV at hr
  have hag := hok.isAgg W
  have hsz := hok.sizeOf W
  have hl := RepL.length hc
  split at hr
  · rename_i hrow
    injection hr with hr; subst hr
    simp only [okIf] at hp
    refine ⟨rfl, fun x hx => refsL_drop _ _ _ (refsL_take _ _ _ hx), .agg ((cs.drop p).take ti.size).toArray, ?_, ⟨_, rfl, fun u hu => h1 u (List.mem_of_mem_drop (List.mem_of_mem_take hu)), (hc.drop p).take ti.size⟩⟩
    simp only [part, Sem.run_bind, hag, hrow, Result.andThen_ok, if_true, hsz, Sem.run_pure]
    congr 2
    apply Array.ext'
    simp [List.take_drop]
  · rename_i hrow
    injection hr with hr; subst hr
    simp only [okIf] at hp
    obtain ⟨u, hu, hru⟩ := RepL.get hc p hp
    have hgd : l.getD p .any = l[p] := by simp [List.getD_eq_getElem?_getD, List.getElem?_eq_getElem hp]
    refine ⟨rfl, fun x hx => ?_, u, ?_, by show Rep S (l.getD p .any) u; rw [hgd]; exact hru⟩
    · simp only [hgd] at hx; exact refsL_mem (List.getElem_mem hp) x hx
    · have hrow' : ti.k.row = false := by simpa using hrow
      simp only [part, Sem.run_bind, hag, hrow', Result.andThen_ok, Bool.false_eq_true, if_false]
      have : cs.toArray[p]? = some u := by simpa using hu
      simp [this]

def fieldV (τ : TT) (T : TypeId) (x : V) (f : Nat) : Option Res :=
  match τ T, x with
  | some ti, .agg l => (match ti.k with
    | .struct fs => (match fs[f]? with
      | some (off, t) => (match τ t with
        | some tf => partV tf l off
        | none => none)
      | none => none)
    | _ => none)
  | _, _ => none
theorem fieldV_ok {τ : TT} (hτ : TTOk P τ) (h : Sim F β s a W) (hd : ∀ i, d = some i → i < F.n) {T : TypeId} {x : V} {f : Nat} {r : Res} (hr : fieldV τ T x f = some r) (hp : r.pre) {v : Value} (hx : Rep (sit F β s.o W) x v) (hx2 : ∀ r ∈ x.refs, RefOk s.o r) :
    Does P F (Instr.field T v f) s a W d r := by
  unfold fieldV at hr
  split at hr <;> try (cases hr; done)
  rename_i ti l hti
  split at hr <;> try (cases hr; done)
  rename_i fs hk
  split at hr <;> try (cases hr; done)
  rename_i off t hf
  split at hr <;> try (cases hr; done)
  rename_i tf htf
  have hkk := (hτ T ti hti).k
  rw [hk] at hkk
  obtain ⟨fields, hu, hfs⟩ := hkk
  subst hfs
  obtain ⟨cs, rfl, h1, h2⟩ := hx
  rw [List.getElem?_map] at hf
  cases hg : fields.toList[f]? with
  | none => rw [hg] at hf; cases hf
  | some g =>
    rw [hg] at hf; simp only [Option.map_some, Option.some.injEq, Prod.mk.injEq] at hf
    obtain ⟨rfl, rfl⟩ := hf
    have hg' : fields[f]? = some g := by simpa using hg
    obtain ⟨g1, g2, z, g3, g4⟩ := partV_ok (W := W) (hτ _ tf htf) hr hp h2 h1
    refine does_val h hd g1 (z := z) ?_ g4 (fun q hq => hx2 q (g2 q hq))
    simp [Instr.field, run_underlying hu, hg', asAgg, g3]

def indexV (τ : TT) (T : TypeId) (x i : V) : Option Res :=
  match τ T, x, i with
  | some ti, .str l, .int _ n => (match ti.k with
    | .str => okIf (0 ≤ n ∧ n < l.length) (.int .u8 ((l.getD n.toNat 0).toNat : Int))
    | _ => none)
  | some ti, .agg l, .int _ n => (match ti.k with
    | .arr len e => (match τ e with
      | some te => (match partV te l (n.toNat * te.size) with
        | some r => some ⟨(0 ≤ n ∧ n < len) ∧ r.pre, r.val, r.upd⟩
        | none => none)
      | none => none)
    | _ => none)
  | _, _, _ => none
theorem indexV_ok {τ : TT} (hτ : TTOk P τ) (h : Sim F β s a W) (hd : ∀ i, d = some i → i < F.n) {T : TypeId} {x i : V} {r : Res} (hr : indexV τ T x i = some r) (hp : r.pre) {v u : Value} (hx : Rep (sit F β s.o W) x v) (hx2 : ∀ r ∈ x.refs, RefOk s.o r)
    (hi : Rep (sit F β s.o W) i u) : Does P F (Instr.index T v u) s a W d r := by
  unfold indexV at hr
  split at hr <;> try (cases hr; done)
  · rename_i ti l ki n hti
    split at hr <;> try (cases hr; done)
    rename_i hk
    injection hr with hr; subst hr
    have hkk := (hτ T ti hti).k
    rw [hk] at hkk
    cases hx; cases hi
    have hp : 0 ≤ n ∧ n < l.length := hp
    obtain ⟨n', rfl⟩ := Int.eq_ofNat_of_zero_le hp.1
    have hlt : n' < l.length := by omega
    have hg : (⟨l.toArray⟩ : ByteArray)[n']? = some l[n'] := by
      have hlt' : n' < (⟨l.toArray⟩ : ByteArray).size := by rw [vb_size]; exact hlt
      exact (getElem?_pos (⟨l.toArray⟩ : ByteArray) n' hlt').trans rfl
    refine does_val h hd rfl (z := .int .u8 (l[n'].toNat : Int)) ?_ ?_ (by intro q hq; simp [V.refs] at hq)
    · simp [Instr.index, run_underlying hkk, asIntOf, hg]
    · show _ = Value.int .u8 _
      simp [List.getElem?_eq_getElem hlt]
  · rename_i ti l ki n hti
    split at hr <;> try (cases hr; done)
    rename_i len e hk
    split at hr <;> try (cases hr; done)
    rename_i te hte
    split at hr <;> try (cases hr; done)
    rename_i r0 hr0
    injection hr with hr; subst hr
    obtain ⟨hp, hp0⟩ := hp
    have hkk := (hτ T ti hti).k
    rw [hk] at hkk
    cases hi
    obtain ⟨cs, rfl, h1, h2⟩ := hx
    obtain ⟨n', rfl⟩ := Int.eq_ofNat_of_zero_le hp.1
    have hlt : n' < len := by omega
    have hs := (hτ e te hte).sizeOf W
    obtain ⟨g1, g2, z, g3, g4⟩ := partV_ok (W := W) (hτ _ te hte) hr0 hp0 h2 h1
    refine does_val h hd g1 (z := z) ?_ g4 (fun q hq => hx2 q (g2 q hq))
    simp only [Int.toNat_natCast] at g3
    simp [Instr.index, run_underlying hkk, asIntOf, hlt, hs, g3]

def extractV (x : V) (i : Nat) : Option Res :=
  match x with
  | .tup l => if i < l.length then ok (l.getD i .any) else none
  | _ => none
theorem extractV_ok (h : Sim F β s a W) (hd : ∀ i, d = some i → i < F.n) {x : V} {i : Nat} {r : Res} (hr : extractV x i = some r) {v : Value} (hx : Rep (sit F β s.o W) x v) (hx2 : ∀ r ∈ x.refs, RefOk s.o r) :
    Does P F (Instr.extract v i) s a W d r := by
  unfold extractV at hr
  split at hr <;> try (cases hr; done)
  split at hr <;> try (cases hr; done)
  rename_i l hi
  injection hr with hr; subst hr
  obtain ⟨cs, rfl, h1⟩ := hx
  obtain ⟨u, hu, hru⟩ := RepL.get h1 i hi
  have hgd : l.getD i .any = l[i] := by simp [List.getD_eq_getElem?_getD, List.getElem?_eq_getElem hi]
  refine does_val h hd rfl (z := u) ?_ (by show Rep _ (l.getD i .any) u; rw [hgd]; exact hru) (fun q hq => ?_)
  · have : cs.toArray[i]? = some u := by simpa using hu
    simp [Instr.extract, this]
  · simp only [hgd] at hq; exact hx2 q (refsL_mem (List.getElem_mem hi) q hq)

def pickV (c x y : V) : Option Res :=
  match c with
  | .bool true => ok x
  | .bool false => ok y
  | _ => none

def lenV (τ : TT) (T : TypeId) (x : V) : Option Res :=
  match τ T with
  | some ti => (match ti.k, x with
    | .str, .str l => ok (.int .i64 (l.length : Int))
    | .slc _, .sl _ rows => ok (.int .i64 (rows.length : Int))
    | .slc _, .own _ n => ok (.int .i64 (n : Int))
    | .slc _, .hs _ n => ok (.int .i64 (n : Int))
    | .slc _, .nil => ok (.int .i64 0)
    | .arr n _, _ => ok (.int .i64 (n : Int))
    | _, _ => none)
  | none => none
theorem lenV_ok {τ : TT} (hτ : TTOk P τ) {S : Sit} {T ty : TypeId} {x : V} {r : Res} (hr : lenV τ T x = some r) {v : Value} (hx : Rep S x v) (w : World) : Yld P S (Builtin.len_ #[T] ty #[v]) w r := by
  unfold lenV at hr
  split at hr <;> try (cases hr; done)
  rename_i ti hti
  have hkk := (hτ T ti hti).k
  split at hr <;> try (cases hr; done)
  · rename_i l hk
    rw [hk] at hkk
    injection hr with hr; subst hr; cases hx
    exact ⟨_, by simp [Builtin.len_, run_underlying hkk, goInt, vb_size], rfl, rfl, rfl⟩
  · rename_i e k rows hk
    rw [hk] at hkk
    injection hr with hr; subst hr
    obtain ⟨ad, cap, rfl, _⟩ := hx
    exact ⟨_, by simp [Builtin.len_, run_underlying hkk, goInt], rfl, rfl, rfl⟩
  · rename_i e o n hk
    rw [hk] at hkk
    injection hr with hr; subst hr
    obtain ⟨⟨ad, cap, rfl⟩, _⟩ := hx
    exact ⟨_, by simp [Builtin.len_, run_underlying hkk, goInt], rfl, rfl, rfl⟩
  · rename_i e o n hk
    rw [hk] at hkk
    injection hr with hr; subst hr
    obtain ⟨cap, rfl, _⟩ := hx
    exact ⟨_, by simp [Builtin.len_, run_underlying hkk, goInt], rfl, rfl, rfl⟩
  · rename_i e hk
    rw [hk] at hkk
    injection hr with hr; subst hr; cases hx
    exact ⟨_, by simp [Builtin.len_, run_underlying hkk, goInt], rfl, rfl, rfl⟩
  · rename_i n e hk
    rw [hk] at hkk
    injection hr with hr; subst hr
    exact ⟨_, by simp [Builtin.len_, run_underlying hkk, goInt], rfl, rfl, rfl⟩

def minV (big : Bool) (x y : V) : Option Res :=
  match x, y with
  | .int k a, .int k' b => if k = k' then ok (.int k (if big then (if a < b then b else a) else (if b < a then b else a))) else none
  | _, _ => none

end
end Go.Proofs.YtedbbinlcdgkoaaGreatDoor
