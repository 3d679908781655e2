import Derived.Test.YtjedikaidbobdaaGreatDoorVH
/- The value machine: make, bytes and strings, and all operations but calls. No program in sight. -/
namespace Go.Proofs.YtjedikaidbobdaaGreatDoor
open Go.RowKit
set_option linter.unusedVariables false
set_option linter.unusedSimpArgs false

section
variable {P : Program} {F : Env} {β : Bet} {s : St} {a : Act} {W : World} {d : Option Nat}

def toBytes? : List (List V) → Option (List UInt8)
  | [] => some []
  | [.int .u8 n] :: rs => match toBytes? rs with
    | some l => some (UInt8.ofNat n.toNat :: l)
    | none => none
  | _ => none
theorem toBytes_bytesR : ∀ l : List UInt8, toBytes? (bytesR l) = some l
  | [] => rfl
  | c :: l => by
    show (match toBytes? (bytesR l) with | some m => some (UInt8.ofNat (c.toNat : Int).toNat :: m) | none => none) = _
    rw [toBytes_bytesR l]; simp
theorem toBytes_cells {S : Sit} : ∀ {rows : List (List V)} {l : List UInt8} {cs : List Value}, toBytes? rows = some l → RepL S rows.flatten cs →
    ∃ ns : List Int, cs = ns.map (Value.int .u8) ∧ ns.map (fun n => UInt8.ofNat n.toNat) = l ∧ ns.length = rows.length
  | [], l, cs, h, hc => by simp only [toBytes?, Option.some.injEq] at h; subst h; cases hc; exact ⟨[], rfl, rfl, rfl⟩
  | [] :: rs, l, cs, h, hc => by simp [toBytes?] at h
  | [x] :: rs, l, cs, h, hc => by
    cases x with
    | int k n =>
      cases k <;> try (simp [toBytes?] at h; done)
      simp only [toBytes?] at h
      split at h
      · rename_i m hm
        injection h with h; subst h
        obtain ⟨u, us, rfl, h1, h2⟩ := hc
        obtain ⟨ns, rfl, h4, h5⟩ := toBytes_cells hm h2
        cases h1
        exact ⟨n :: ns, rfl, by simp [h4], by simp [h5]⟩
      · cases h
    | _ => simp [toBytes?] at h
  | (x :: y :: r) :: rs, l, cs, h, hc => by cases x <;> simp [toBytes?] at h

theorem foldl_push (l : List UInt8) : ∀ (acc : ByteArray), (l.foldl (fun r n => r.push n) acc) = ⟨(acc.data.toList ++ l).toArray⟩ := by
  induction l with
  | nil => intro acc; cases acc; simp
  | cons c l ih => intro acc; rw [List.foldl_cons, ih]; cases acc; simp [ByteArray.push]

def bytesStrV (τ : TT) (src dst : TypeId) (vx : Option V) : Option Res :=
  match τ src, τ dst, vx with
  | some ts, some td, some x => (match ts.k, td.k with
    | .slc e, .str => (match τ e with
      | some te => (match te.k, x with
        | .int .u8, .sl 1 rows => (match toBytes? rows with
          | some l => ok (.str l)
          | none => none)
        | .int .u8, .nil => ok (.str [])
        | _, _ => none)
      | none => none)
    | _, _ => none)
  | _, _, _ => none
theorem bytesStrV_ok {τ : TT} (hτ : TTOk P τ) (h : Sim F β s a W) (hd : ∀ i, d = some i → i < F.n) {src dst : TypeId} {x : V} {r : Res} (hr : bytesStrV τ src dst (view s.o x) = some r) {v : Value} (hx : Rep (sit F β s.o W) x v) :
    Does P F (convert src dst v) s a W d r := by
  unfold bytesStrV at hr
  split at hr <;> try (cases hr; done)
  rename_i ts td y hts htd hv
  have hy := (view_rep h.objs _ _ _ hv hx).1
  split at hr <;> try (cases hr; done)
  rename_i e hk1 hk2
  have h1 := (hτ src ts hts).k
  have h2 := (hτ dst td htd).k
  rw [hk1] at h1; rw [hk2] at h2
  split at hr <;> try (cases hr; done)
  rename_i te hte
  have h3 := (hτ e te hte).k
  split at hr <;> try (cases hr; done)
  · rename_i rows hk3
    rw [hk3] at h3
    split at hr <;> try (cases hr; done)
    rename_i l hl
    injection hr with hr; subst hr
    obtain ⟨ad, cap, rfl, g1, g2, g3, g4, g5, g6⟩ := hy
    have hconv := run_convert_bytes_string (P := P) W src dst e ad rows.length cap h1 h3 h2
    refine does_val h hd rfl (z := .string ⟨l.toArray⟩) ?_ rfl (by simp [V.refs])
    rw [hconv]
    cases ad with
    | none =>
      have := g3 rfl; subst this
      simp only [toBytes?, Option.some.injEq] at hl; subst hl
      rfl
    | some x0 =>
      obtain ⟨k1, k2⟩ := g6 x0 rfl
      obtain ⟨cs, c1, c2, c3⟩ : ∃ cs, RepL (sit F β s.o W) rows.flatten cs ∧ (∀ c ∈ cs, c.oneCell' = true) ∧ ∀ (j : Nat) (u : Value), cs[j]? = some u → W.cell? (x0.add j) = some u := by
        by_cases hr0 : rows = []
        · subst hr0; exact ⟨[], rfl, (fun c hc => by cases hc), fun j u hj => by simp at hj⟩
        · have k1 := k1 hr0
          obtain ⟨b, o, sp⟩ := x0
          simp only at k1 k2; subst k1
          obtain ⟨cs, c1, c2, c3⟩ := (AtR.flat.1 k2).cells
          exact ⟨cs, c1, c2, fun j u hj => by rw [add_at]; exact c3 j u hj⟩
      obtain ⟨ns, rfl, n1, n2⟩ := toBytes_cells hl c1
      have hl2 := run_loadCells_list (P := P) W x0 (ns.map (Value.int .u8)) c3
      rw [List.length_map, n2] at hl2
      have := run_bytesToString (P := P) W x0 rows.length cap ns hl2
      rw [this]
      congr 2
      have hf := foldl_push (ns.map fun n => UInt8.ofNat n.toNat) ByteArray.empty
      rw [List.foldl_map, n1] at hf
      rw [hf]
      simp
  · rename_i hk3
    rw [hk3] at h3
    injection hr with hr; subst hr
    have hy : v = .slice none 0 0 := hy
    subst hy
    have hconv := run_convert_bytes_string (P := P) W src dst e none 0 0 h1 h3 h2
    refine does_val h hd rfl (z := .string ⟨[].toArray⟩) ?_ rfl (by simp [V.refs])
    rw [hconv]; rfl

def strBytesV (τ : TT) (src dst : TypeId) (x : V) : Option Res :=
  match τ src, τ dst, x with
  | some ts, some td, .str l => (match ts.k, td.k with
    | .str, .slc e => (match τ e with
      | some te => (match te.k with
        | .int .u8 => okIf (l.length ≤ 1000000000) (.sl 1 (bytesR l))
        | _ => none)
      | none => none)
    | _, _ => none)
  | _, _, _ => none
theorem bytesR_flat : ∀ l : List UInt8, (bytesR l).flatten = l.map fun c => V.int .u8 (c.toNat : Int)
  | [] => rfl
  | c :: l => by show [V.int .u8 (c.toNat : Int)] ++ (bytesR l).flatten = _; rw [bytesR_flat l]; rfl
theorem bytesR_get (l : List UInt8) (i : Nat) (h : i < l.length) : ∃ h', (bytesR l).flatten[i]'h' = V.int .u8 (l[i].toNat : Int) :=
  ⟨by rw [bytesR_flat]; simpa using h, by simp only [bytesR_flat, List.getElem_map]⟩
theorem bytesR_clean (l : List UInt8) : cleanR (bytesR l) := fun r hr => by obtain ⟨c, _, rfl⟩ := List.mem_map.1 hr; rfl
theorem bytesR_row (l : List UInt8) : ∀ r ∈ bytesR l, r.length = 1 := fun r hr => by obtain ⟨c, _, rfl⟩ := List.mem_map.1 hr; rfl
theorem bytesR_len (l : List UInt8) : (bytesR l).length = l.length := by simp [bytesR]
theorem strBytesV_ok {τ : TT} (hτ : TTOk P τ) (h : Sim F β s a W) (hd : ∀ i, d = some i → i < F.n) {src dst : TypeId} {x : V} {r : Res} (hr : strBytesV τ src dst x = some r) (hp : r.pre) {v : Value} (hx : Rep (sit F β s.o W) x v) :
    Does P F (convert src dst v) s a W d r := by
  unfold strBytesV at hr
  split at hr <;> try (cases hr; done)
  rename_i ts td l hts htd
  split at hr <;> try (cases hr; done)
  rename_i e hk1 hk2
  have h1 := (hτ src ts hts).k
  have h2 := (hτ dst td htd).k
  rw [hk1] at h1; rw [hk2] at h2
  split at hr <;> try (cases hr; done)
  rename_i te hte
  have h3 := (hτ e te hte).k
  split at hr <;> try (cases hr; done)
  rename_i hk3
  rw [hk3] at h3
  injection hr with hr; subst hr
  have hp : l.length ≤ 1000000000 := hp
  have hx : v = .string ⟨l.toArray⟩ := hx
  subst hx
  have hrun := run_bytes_of_string (P := P) W src dst e ⟨l.toArray⟩ h1 h2 h3
  have c1 := grownCap_ge W l.length 0 e
  have c2 := grownCap_le_maxLen W l.length 0 e (by unfold maxLen; omega)
  rw [vb_size] at hrun
  generalize grownCap W l.length 0 e = cap at hrun c1 c2
  generalize hfr : ((bytesRow ⟨l.toArray⟩ cap).size, (bytesRow ⟨l.toArray⟩ cap).size + 1) = fr at hrun
  have hW : Chg [] W (W.drew.alloc (.cells (bytesRow ⟨l.toArray⟩ cap) e fr)) := (Chg.drew [] W).trans (Chg.alloc [] W.drew _)
  have h4 := h.world hW
  refine ⟨_, _, β, hrun, ?_⟩
  have hb : (W.drew.alloc (.cells (bytesRow ⟨l.toArray⟩ cap) e fr)).heap[W.heap.size]? = some (.cells (bytesRow ⟨l.toArray⟩ cap) e fr) := al_new (w := W.drew) rfl
  refine h4.put d hd (x := .sl 1 (bytesR l)) (by simp [V.refs]) ⟨some ⟨W.heap.size, 0, none⟩, cap, by rw [bytesR_len], by rw [bytesR_len]; exact c1, c2, (fun e => by cases e), bytesR_row l, bytesR_clean l, fun y hy => ?_⟩
  injection hy with hy; subst hy
  refine ⟨fun _ => rfl, AtR.flat.2 (AtL.of_get fun i hi => ?_)⟩
  have hi' : i < l.length := by rw [flatten_len (bytesR_row l), bytesR_len] at hi; omega
  refine ⟨fun q => by have := h.objs.mut_lt q; simp only at this; omega, .int .u8 (l[i].toNat : Int), ?_, rfl, ?_⟩
  · show (W.drew.alloc _).cell? ⟨W.heap.size, 0 + i, none⟩ = _
    rw [cell_of_row _ _ _ _ _ _ hb]
    unfold bytesRow
    rw [Array.getElem?_append_left (by simp; omega), Array.getElem?_map]
    simp [List.getElem?_eq_getElem hi']
  · obtain ⟨_, e⟩ := bytesR_get l i hi'
    rw [e]; rfl

def bornV (i : Nat) (l : List V) : List V := if prv i = true then l.map fun _ => .any else l
theorem bornV_no {i : Nat} {l : List V} (h : prv i = false) : bornV i l = l := by unfold bornV; rw [h]; rfl
theorem bornV_len (i : Nat) (l : List V) : (bornV i l).length = l.length := by unfold bornV; split <;> simp
theorem any_refsL : ∀ l : List V, V.refsL (l.map fun _ => V.any) = []
  | [] => rfl
  | x :: xs => by rw [List.map_cons, V.refsL, any_refsL xs]; rfl
theorem bornV_refsL (i : Nat) {l : List V} (h : V.refsL l = []) : V.refsL (bornV i l) = [] := by unfold bornV; split; exact any_refsL l; exact h
theorem any_repL (S : Sit) : ∀ {l : List V} {vs : List Value}, vs.length = l.length → RepL S (l.map fun _ => V.any) vs
  | [], vs, h => List.eq_nil_of_length_eq_zero h
  | x :: xs, [], h => by simp at h
  | x :: xs, v :: vs, h => ⟨v, vs, rfl, trivial, any_repL S (by simpa using h)⟩
theorem bornV_repL (S : Sit) (i : Nat) {l : List V} {vs : List Value} (h : RepL S l vs) : RepL S (bornV i l) vs := by
  unfold bornV; split
  · exact any_repL S (RepL.length h)
  · exact h
theorem born_rows {S : Sit} {r : List V} {z : List Value} (h : RepL S r z) : ∀ n : Nat, RepL S (zrows n r) (zrows n z)
  | 0 => rfl
  | n + 1 => by
    have := h.append (born_rows h n)
    simpa [zrows, List.replicate_succ] using this
def makeSliceV (τ : TT) (T : TypeId) (l c : V) (d : Option Nat) : Option Res :=
  match τ T, l, c, d with
  | some ti, .int _ n, .int _ m, some i => (match ti.k with
    | .slc e => (match τ e with
      | some te => if 0 < te.size ∧ te.bytes ≤ 1000 ∧ te.size ≤ 1000 then some ⟨0 ≤ n ∧ n ≤ m ∧ m ≤ 10000, .own i n.toNat, .new (.arr te.size e (List.replicate n.toNat (bornV i (te.zero.map ofVal))))⟩ else none
      | none => none)
    | _ => none)
  | _, _, _, _ => none
theorem makeSliceV_ok {τ : TT} (hτ : TTOk P τ) (h : Sim F β s a W) (hd : ∀ i, d = some i → i < F.n) {T : TypeId} {x y : V} {r : Res} (hr : makeSliceV τ T x y d = some r) (hot : Bool) (hp : (heatB hot r).pre) (hn : ∀ i, d = some i → s.o i = none) {u v : Value} (hx : Rep (sit F β s.o W) x u) (hy : Rep (sit F β s.o W) y v) :
    Does P F (Instr.makeSlice T u v) s a W d (heatB hot r) := by
  unfold makeSliceV at hr
  split at hr <;> try (cases hr; done)
  rename_i ti kn n km m i hti
  split at hr <;> try (cases hr; done)
  rename_i e hk
  split at hr <;> try (cases hr; done)
  rename_i te hte
  split at hr <;> try (cases hr; done)
  rename_i hlim
  obtain ⟨hpos, hby, hsz⟩ := hlim
  injection hr with hr; subst hr
  obtain ⟨p1, p2, p3⟩ := (heat_pre hp : 0 ≤ n ∧ n ≤ m ∧ m ≤ 10000)
  have hx : u = .int kn n := hx
  have hy : v = .int km m := hy
  subst hx; subst hy
  have hkk := (hτ T ti hti).k
  rw [hk] at hkk
  have hok := hτ e te hte
  obtain ⟨inf, z, i1, i2, i3, i4, i5⟩ := hok.info
  obtain ⟨n', rfl⟩ := Int.eq_ofNat_of_zero_le p1
  obtain ⟨m', rfl⟩ := Int.eq_ofNat_of_zero_le (Int.le_trans p1 p2)
  have hnm : n' ≤ m' := by omega
  have hm : m' ≤ 10000 := by omega
  have hrun := run_makeSlice (P := P) W T e inf z hkk i1 i4 kn km n' m' p1 p2 (by
    rw [i2]; simp only [Int.toNat_natCast]
    have : m' * te.size ≤ 10000 * 1000 := Nat.mul_le_mul hm hsz
    omega) (by
    rw [i3]
    have : te.bytes * m' ≤ 1000 * 10000 := Nat.mul_le_mul hby hm
    have h2 : ((te.bytes * m' : Nat) : Int) ≤ 10000000 := by omega
    rw [Int.natCast_mul] at h2; omega) (by omega)
  simp only [Int.toNat_natCast] at hrun ⊢
  have hzl : z.cells.toList.length = te.size := by rw [i5]; exact hok.zlen
  have hmade : madeCells z.cells (m' * inf.size) = (zrows n' te.zero ++ zrows (m' - n') te.zero).toArray := by
    apply Array.ext'
    have e1 : zrows n' te.zero ++ zrows (m' - n') te.zero = zrows m' te.zero := by
      unfold zrows
      rw [← List.flatten_append, List.replicate_append_replicate, show n' + (m' - n') = m' from by omega]
    rw [e1, ← i5, zrows_get m' _ (by rw [hzl]; exact hpos), i2]
    unfold madeCells
    have hzl' : z.cells.size = te.size := by rw [← hzl]; simp
    simp [hzl']
  rw [hmade] at hrun
  have hfl : (List.replicate n' (bornV i (te.zero.map ofVal))).flatten = zrows n' (bornV i (te.zero.map ofVal)) := rfl
  refine newRow_arr (c := m') (xs := zrows n' te.zero) (ys := zrows (m' - n') te.zero) h (hd i rfl) (hn i rfl) te.size e (by simp) (fun r hr => ?_) (fun r hr => ?_) (fun w hw => hok.zone w (zrows_mem hw)) ?_ hnm (by unfold maxLen; omega) ?_ hrun hot hp
  · rw [(List.mem_replicate.1 hr).2, bornV_len, List.length_map, hok.zlen]
  · rw [(List.mem_replicate.1 hr).2]; exact bornV_refsL _ (ofVal_refsL _)
  · rw [hfl]; exact born_rows (bornV_repL _ _ (ofVal_repL _ _)) _
  · rw [List.length_append, zrows_len, zrows_len, hok.zlen, ← Nat.add_mul]; congr 1; omega

end
end Go.Proofs.YtjedikaidbobdaaGreatDoor
